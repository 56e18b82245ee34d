/- The text of a fabric whose rows lie anywhere in a block: the program's function. -/
import Derived.Test.YtdcemmhfbfogdaaDoorFabText
import Derived.Test.YtdcemmhfbfogdaaDoorMovJoin
import Derived.Deep.RegionHeld3
import Derived.BigRegion
namespace Go.Proofs.YtdcemmhfbfogdaaDoor
open Go.RowKit
set_option linter.unusedVariables false
set_option linter.unusedSimpArgs false
set_option maxRecDepth 100000

theorem add_plain2 (b o j : Nat) : (Addr.add ⟨b, o, none⟩ j) = ⟨b, o + j, none⟩ := by unfold Addr.add; split <;> simp_all
theorem joinTail_eq : ∀ (M : List (List UInt8)) (x : List UInt8), Lib.join (x :: M) [10] ++ [10] = x ++ [10] ++ joinD 10 M := by
  intro M
  induction M with
  | nil => intro x; simp [Lib.join_one, joinD]
  | cons y M ih =>
    intro x
    have h := ih y
    have e : Lib.join (x :: y :: M) [10] = x ++ [10] ++ Lib.join (y :: M) [10] := by
      simp [Lib.join, List.intercalate]
    rw [e, List.append_assoc, h]
    simp [joinD]
/-- strings.Join of a row of texts of the call's own. -/
theorem c_joinOwn (g cap base n : Nat) (xs : List (List UInt8)) (hx : xs.length = n) (w : World) (hO : w.ownsRow base 9 1 (.slice (some ⟨g, 0, none⟩) n cap) n (strs xs)) (hlen : (Lib.join xs [10]).length ≤ 4000000) (hn : n ≤ 1100000) :
    Calls Tryd.prog 52 #[.slice (some ⟨g, 0, none⟩) n cap, .string ⟨#[10]⟩] w fun e w' => e = .returned (.string (str (Lib.join xs [10]))) ∧ Below w.heap.size w w' := by
  subst hx
  have hm : (xs.map str).map (·.data.toList) = xs := by
    rw [List.map_map]
    conv => rhs; rw [← List.map_id xs]
    exact List.map_congr_left fun l _ => by simp [str]
  have hcap : xs.length ≤ cap ∧ g < w.heap.size := by
    refine ⟨?_, own_lo hO (Nat.le_refl _) g rfl⟩
    rcases hO.2 with ⟨h1, h2⟩ | ⟨gb, cap', cur, h1, _, _, h2, _⟩
    · injection h1 with h1; cases h1
    · injection h1 with _ _ h1; omega
  have := Tryd.strings_Join g 0 cap (xs.map str) ⟨#[10]⟩ w (fun j x hj => by
      obtain ⟨l, hl, rfl⟩ := List.getElem?_eq_some_iff.1 hj
      have hjl : j < xs.length := by simpa using l
      have := (own_get hO (strs_get hjl)).1
      rw [Nat.zero_add, this]
      simp [List.getD_eq_getElem?_getD, hjl]) hcap.2 (by simp; omega) (by simpa using hcap.1) (by rw [hm]; exact Nat.le_trans hlen (by decide))
  rw [hm, List.length_map] at this
  exact this
/-- What the region keeps. -/
abbrev FW2 (w0 : World) (b o cap : Nat) (cast : Int) (L : List (List UInt8)) (w' : World) : Prop :=
  (w'.cell? ⟨w0.heap.size, 0, none⟩ = some (.int .i16 cast) ∧ w'.cell? ⟨w0.heap.size, 1, none⟩ = some (.slice (some ⟨b, o, none⟩) L.length cap)) ∧ Hid (RdRow w' (some ⟨b, o, none⟩) (strs L)) ∧ Hid (Below w0.heap.size w0 w') ∧ Hid (w0.heap.size < w'.heap.size)
section
variable {w0 w' w1 : World} {b o cap : Nat} {cast : Int} {L : List (List UInt8)}
theorem fw2_below (hb : Below w'.heap.size w' w1) (h : FW2 w0 b o cap cast L w') : FW2 w0 b o cap cast L w1 :=
  ⟨⟨(hb.cell (p := ⟨w0.heap.size, 0, none⟩) h.2.2.2.out).trans h.1.1, (hb.cell (p := ⟨w0.heap.size, 1, none⟩) h.2.2.2.out).trans h.1.2⟩, h.2.1.out.below hb, below_then h.2.2.1.out hb, Nat.lt_of_lt_of_le h.2.2.2.out hb.size⟩
theorem fw2_alloc (ob : Obj) (h : FW2 w0 b o cap cast L w') : FW2 w0 b o cap cast L (w'.alloc ob) := fw2_below (below_alloc (Below.refl _ _) _) h
theorem fw2_drew (h : FW2 w0 b o cap cast L w') : FW2 w0 b o cap cast L w'.drew := ⟨h.1, h.2.1, below_drew h.2.2.1.out, h.2.2.2⟩
theorem fw2_allocd (ob : Obj) (h : FW2 w0 b o cap cast L w'.drew) : FW2 w0 b o cap cast L (w'.alloc ob).drew := fw2_alloc ob h
theorem fw2_near (hbl : L ≠ [] → b < w0.heap.size) (hb : Below (w0.heap.size + 1) w' w1) (h : FW2 w0 b o cap cast L w') : FW2 w0 b o cap cast L w1 :=
  ⟨⟨(hb.cell (p := ⟨w0.heap.size, 0, none⟩) (Nat.lt_succ_self _)).trans h.1.1, (hb.cell (p := ⟨w0.heap.size, 1, none⟩) (Nat.lt_succ_self _)).trans h.1.2⟩,
    fun j u hj => by
      obtain ⟨ad, e, hc⟩ := h.2.1.out j u hj
      refine ⟨ad, e, ?_⟩
      injection e with e
      subst e
      rw [add_plain2] at hc ⊢
      have hne : L ≠ [] := fun e => by subst e; simp [strs] at hj
      exact (hb.cell (p := ⟨b, o + j, none⟩) (Nat.lt_succ_of_lt (hbl hne))).trans hc,
    h.2.2.1.out.trans (hb.mono (Nat.le_succ _)), Nat.lt_of_lt_of_le h.2.2.2.out hb.size⟩
theorem fw2_R (h : FW2 w0 b o cap cast L w') : RdRow w' (some ⟨b, o, none⟩) (strs L) := h.2.1.out
theorem fw2_B (h : FW2 w0 b o cap cast L w') : Below w0.heap.size w0 w' := h.2.2.1.out
theorem fw2_lt (h : FW2 w0 b o cap cast L w') : w0.heap.size < w'.heap.size := h.2.2.2.out
end
set_option maxHeartbeats 2000000 in
theorem c_fabricTextO (cast : Int) (b o cap : Nat) (L : List (List UInt8)) (w : World) (hF : FabAt w cast (some ⟨b, o, none⟩) cap L) (hcap : L.length ≤ cap) (hlen : L.length + lensN L ≤ 1048576) (hc : 1 ≤ cast ∧ cast ≤ 60) :
    Calls Tryd.prog 30 #[.agg #[.int .i16 cast, .slice (some ⟨b, o, none⟩) L.length cap]] w fun e w' => e = .returned (.string (str (fabTxt cast L))) ∧ Below w.heap.size w w' := by
  obtain ⟨c0, c1⟩ := hc
  have wc : IntKind.i64.wrap cast = cast := IntWalk.i64_in _ (by omega)
  have CD : Hid (∀ w, Calls Tryd.prog 53 #[.int .i64 cast] w fun e w' => e = .returned (.string (str (Lib.decDigits cast.toNat))) ∧ w = w') := fun w => by
    have := c_decimal cast.toNat (by omega) w
    rw [Int.toNat_of_nonneg (by omega)] at this
    exact this
  have hbl : L ≠ [] → b < w.heap.size := fun hne => by
    have hpos : 0 < L.length := List.length_pos_iff.2 hne
    obtain ⟨ad, e, hc⟩ := hF.row 0 _ (strs_get hpos)
    injection e with e
    subst e
    rw [add_plain2] at hc
    exact World.block_lt_of_cell? w _ hc
  have ej : Lib.join (Lib.decDigits cast.toNat :: L) [10] ++ [10] = fabTxt cast L := joinTail_eq L _
  have hlj : (Lib.join (Lib.decDigits cast.toNat :: L) [10]).length ≤ 4000000 := by
    have h1 := congrArg List.length ej
    have h2 := fabTxt_len (cast := cast) (L := L) (by omega) L.length
    rw [List.take_length] at h2
    rw [List.length_append] at h1
    omega
  have hz : (str (Lib.join (Lib.decDigits cast.toNat :: L) [10])).size ≤ 4000000 := by rw [str_size]; exact hlj
  have HLJ := Lib.hid hlj
  have E : Hid (str (Lib.join (Lib.decDigits cast.toNat :: L) [10]) ++ (⟨#[10]⟩ : ByteArray) = str (fabTxt cast L)) := by
    rw [Hid, show (⟨#[10]⟩ : ByteArray) = str [10] from rfl, str_append, ej]
  have hsa : FW2 w b o cap cast L (w.alloc (.cells #[.int .i16 cast, .slice (some ⟨b, o, none⟩) L.length cap] 28 (0, 0))) :=
    ⟨⟨blk_cell (heap_alloc_new w _) 0, blk_cell (heap_alloc_new w _) 1⟩, hF.row.below (below_alloc (Below.refl _ _) _), below_alloc (Below.refl _ _) _, by show w.heap.size < (w.alloc _).heap.size; simp⟩
  have HSA := Lib.hid hsa
  have HS0 : Hid (FW2 w b o cap cast L (w.alloc (.cells #[.int .i16 cast, .slice (some ⟨b, o, none⟩) L.length cap] 28 (0, 0))).drew) := fw2_drew hsa
  clear hsa
  have HBL := Lib.hid hbl
  clear hF hlj ej hbl
  by_cases h0 : L = []
  · subst h0
    generalize hd : Lib.decDigits cast.toNat = dd at *
    clear hd
    have e1 : Lib.join [dd] [10] = dd := Lib.join_one _ _
    rw [e1] at hz E HLJ
    have hzz : ¬ (9223372036854775807 < (str dd).size + 1) := by omega
    have HK1 : Hid (((w.alloc (.cells #[.int .i16 cast, .slice (some ⟨b, o, none⟩) 0 cap] 28 (0, 0))).alloc (.cells #[.string (str dd)] 9 (0, 0))).drew.heap[w.heap.size + 1]? = some (.cells #[.string (str dd)] 9 (0, 0))) := by
      have := heap_alloc_new (w.alloc (.cells #[.int .i16 cast, .slice (some ⟨b, o, none⟩) 0 cap] 28 (0, 0))) (.cells #[.string (str dd)] 9 (0, 0))
      rw [World.size_alloc] at this
      exact this
    have HS1 : Hid (FW2 w b o cap cast [] ((w.alloc (.cells #[.int .i16 cast, .slice (some ⟨b, o, none⟩) 0 cap] 28 (0, 0))).alloc (.cells #[.string (str dd)] 9 (0, 0))).drew) := fw2_drew (fw2_alloc _ HSA.out)
    have HO1 : Hid (((w.alloc (.cells #[.int .i16 cast, .slice (some ⟨b, o, none⟩) 0 cap] 28 (0, 0))).alloc (.cells #[.string (str dd)] 9 (0, 0))).drew.ownsRow (w.heap.size + 1) 9 1 (.slice (some ⟨w.heap.size + 1, 0, none⟩) 1 1) 1 (strs [dd])) := own_of_row (n := 1) (size := 1) HK1.out rfl (Nat.le_refl _) (by omega)
    have HLJ2 : Hid ((Lib.join [dd] [10]).length ≤ 4000000) := by rw [Hid, e1]; exact HLJ.out
    have CJ : ∀ w1, Hid (w1.ownsRow (w.heap.size + 1) 9 1 (.slice (some ⟨w.heap.size + 1, 0, none⟩) 1 1) 1 (strs [dd])) → Hid (Calls Tryd.prog 52 #[.slice (some ⟨w.heap.size + 1, 0, none⟩) 1 1, .string ⟨#[10]⟩] w1 fun e w' => e = .returned (.string (str dd)) ∧ Below w1.heap.size w1 w') := fun w1 h => by
      have := c_joinOwn (w.heap.size + 1) 1 (w.heap.size + 1) 1 [dd] rfl w1 h.out HLJ2.out (by omega)
      rw [e1] at this
      exact this
    go_enter Tryd.func30, Tryd.ntmps30
    go_wp2
    go_region_held3 (fun w' => (w'.cell? ⟨w.heap.size, 0, none⟩ = some (.int .i16 cast) ∧ w'.cell? ⟨w.heap.size, 1, none⟩ = some (.slice (some ⟨b, o, none⟩) 0 cap)) ∧ Hid (RdRow w' (some ⟨b, o, none⟩) (strs [])) ∧ Hid (Below w.heap.size w w') ∧ Hid (w.heap.size < w'.heap.size))
      (first
        | exact HS0.out
        | exact HS1.out
        | (with_reducible exact fw2_alloc _ (by assumption))
        | (with_reducible exact fw2_allocd _ (by assumption))
        | exact fw2_below hbj HS1.out)
      (first
        | (go_at_call 53; ((with_reducible refine (CD.out _).mono ?_); rintro e w5 ⟨rfl, rfl⟩))
        | (go_at_call 52; ((with_reducible refine (CJ _ HO1).out.mono ?_); rintro e wj ⟨rfl, hbj⟩)))
    go_wp2
    exact bodyPost_ret (v := .string (str dd ++ (⟨#[10]⟩ : ByteArray))) (by simp [results, Tryd.results30, go_sem]) rfl ⟨by rw [E.out], fw2_B (fw2_below hbj HS1.out)⟩
  · have hpos : 0 < L.length := List.length_pos_iff.2 h0
    have hm : 1 + L.length ≤ maxLen := by simp only [maxLen]; omega
    have hm2 : (1 + L.length) * 16 ≤ 140737488355328 := by omega
    have HP := Lib.hid hpos
    have HM := Lib.hid hm
    have HM2 := Lib.hid hm2
    clear h0 hpos hm hm2
    have HLX : Hid (∀ dd : List UInt8, (dd :: L).length = 1 + L.length) := fun dd => by simp; omega
    have HLY : Hid (1 + L.length ≤ 1100000) := by show 1 + L.length ≤ 1100000; omega
    generalize hd : Lib.decDigits cast.toNat = dd at *
    clear hd
    have hzz : ¬ (9223372036854775807 < (str (Lib.join (dd :: L) [10])).size + 1) := by omega
    have HK1 : Hid (((w.alloc (.cells #[.int .i16 cast, .slice (some ⟨b, o, none⟩) L.length cap] 28 (0, 0))).alloc (.cells #[.string (str dd)] 9 (0, 0))).drew.heap[w.heap.size + 1]? = some (.cells #[.string (str dd)] 9 (0, 0))) := by
      have := heap_alloc_new (w.alloc (.cells #[.int .i16 cast, .slice (some ⟨b, o, none⟩) L.length cap] 28 (0, 0))) (.cells #[.string (str dd)] 9 (0, 0))
      rw [World.size_alloc] at this
      exact this
    have HS1 : Hid (FW2 w b o cap cast L ((w.alloc (.cells #[.int .i16 cast, .slice (some ⟨b, o, none⟩) L.length cap] 28 (0, 0))).alloc (.cells #[.string (str dd)] 9 (0, 0))).drew) := fw2_drew (fw2_alloc _ HSA.out)
    have HO1 : Hid (((w.alloc (.cells #[.int .i16 cast, .slice (some ⟨b, o, none⟩) L.length cap] 28 (0, 0))).alloc (.cells #[.string (str dd)] 9 (0, 0))).drew.ownsRow (w.heap.size + 1) 9 1 (.slice (some ⟨w.heap.size + 1, 0, none⟩) 1 1) 1 [.string (str dd)]) := own_of_row (n := 1) (size := 1) HK1.out rfl (Nat.le_refl _) (by omega)
    go_enter Tryd.func30, Tryd.ntmps30
    go_wp2
    go_region_held3 (fun w' => (w'.cell? ⟨w.heap.size, 0, none⟩ = some (.int .i16 cast) ∧ w'.cell? ⟨w.heap.size, 1, none⟩ = some (.slice (some ⟨b, o, none⟩) L.length cap)) ∧ Hid (RdRow w' (some ⟨b, o, none⟩) (strs L)) ∧ Hid (Below w.heap.size w w') ∧ Hid (w.heap.size < w'.heap.size))
      (first
        | exact HS0.out
        | (with_reducible exact fw2_alloc _ (by assumption))
        | (with_reducible exact fw2_allocd _ (by assumption))
        | exact hS2
        | exact fw2_below hbj (by assumption)
        | exact fw2_below hbj hS2)
      (first
        | (go_at_call 53; ((with_reducible refine (CD.out _).mono ?_); rintro e w5 ⟨rfl, rfl⟩))
        | ((refine step_append_keep (by rfl) (.tmp 7) (.tmp 9) 23 (by rfl) 9 (.string (str [])) 1 16 Tryd.underlying23 (by kernel_rfl) rfl (by decide) (w.heap.size + 1) (.slice (some ⟨w.heap.size + 1, 0, none⟩) 1 1) 1 [.string (str dd)] (by rfl) HO1.out ⟨b, o, none⟩ L.length cap (strs L) (by rfl) (by rw [strs_len]; simp) ?_ ?_ HP.out HM.out HM2.out (fw2_lt HS1.out) ?_); (· intro j u hj; obtain ⟨ad, e, hc⟩ := fw2_R HS1.out j u hj; injection e with e; subst e; exact hc); (· intro u hu; obtain ⟨l, _, rfl⟩ := List.mem_map.1 hu; rfl); intro g2 c2 w2 hN2 hG2 hat2 hold2; have hS2 := fw2_near HBL.out (below_grown (Below.refl _ _) hG2 HO1.out (Nat.le_refl _) (fw2_lt HS1.out)) HS1.out; have HN2 := Lib.hid hN2; clear hN2)
        | (go_at_call 52; ((with_reducible refine (c_joinOwn g2 c2 (w.heap.size + 1) (1 + L.length) (dd :: L) (HLX.out dd) _ HN2.out HLJ.out HLY.out).mono ?_); rintro e wj ⟨rfl, hbj⟩)))
    go_wp2
    exact bodyPost_ret (v := .string (str (Lib.join (dd :: L) [10]) ++ (⟨#[10]⟩ : ByteArray))) (by simp [results, Tryd.results30, go_sem]) rfl ⟨by rw [E.out], fw2_B (fw2_below hbj hS2)⟩
end Go.Proofs.YtdcemmhfbfogdaaDoor
