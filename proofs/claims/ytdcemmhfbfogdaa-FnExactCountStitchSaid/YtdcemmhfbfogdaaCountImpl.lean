/- How often a stitch comes: the program's function. -/
import Derived.Test.YtdcemmhfbfogdaaCountPure
import Derived.Test.YtdcemmhfbfogdaaShelf
import Derived.Deep.RegionHeld3
import Derived.BigRegion
import Derived.Deep.RegionWith
import Derived.Laws.IdiomStrings
namespace Go.Proofs.Ytdcemmhfbfogdaa
open Go.RowKit
set_option linter.unusedVariables false
set_option linter.unusedSimpArgs false
set_option maxRecDepth 100000

/-- strings.Join of a fabric's rows with nothing between. -/
theorem c_joinRows (b cap : Nat) (L : List (List UInt8)) (w : World) (hR : RdRow w (some ⟨b, 0, none⟩) (strs L)) (hcap : L.length ≤ cap) (hlen : L.length + lensN L ≤ 1048576) :
    Calls Try.prog 23 #[.slice (some ⟨b, 0, none⟩) L.length cap, .string ⟨#[]⟩] w fun e w' => e = .returned (.string (str L.flatten)) ∧ Below w.heap.size w w' := by
  by_cases h0 : L = []
  · subst h0
    exact (Try.strings_Join_none (some ⟨b, 0, none⟩) cap ⟨#[]⟩ w).mono fun e w' h => ⟨h.1, h.2 ▸ Below.refl _ _⟩
  · have hpos : 0 < L.length := List.length_pos_iff.2 h0
    have hcell : ∀ (j : Nat) x, (L.map str)[j]? = some x → w.cell? ⟨b, 0 + j, none⟩ = some (.string x) := fun j x hj => by
      obtain ⟨l, hl, rfl⟩ := List.getElem?_eq_some_iff.1 hj
      have hjl : j < L.length := by simpa using l
      obtain ⟨ad, e, hc⟩ := hR j _ (strs_get hjl)
      injection e with e
      subst e
      simp only [List.getElem_map, Nat.zero_add]
      have e2 : (Addr.add ⟨b, 0, none⟩ j) = ⟨b, j, none⟩ := by unfold Addr.add; split <;> simp_all
      rw [e2] at hc
      rw [hc]
      simp [List.getD_eq_getElem?_getD, hjl]
    have hbw : b < w.heap.size := by
      have := hcell 0 (str (L[0]'hpos)) (by simp [hpos])
      exact World.block_lt_of_cell? w _ this
    have hm : (L.map str).map (·.data.toList) = L := by
      rw [List.map_map]
      conv => rhs; rw [← List.map_id L]
      exact List.map_congr_left fun l _ => by simp [str]
    have hj : ∀ M : List (List UInt8), Lib.join M [] = M.flatten := fun M => by
      unfold Lib.join
      induction M with
      | nil => rfl
      | cons x M ih =>
        cases M with
        | nil => simp [List.intercalate]
        | cons y M =>
          simp only [List.intercalate, List.intersperse_cons_cons, List.flatten_cons, List.nil_append] at ih ⊢
          rw [ih]
    have := Try.strings_Join b 0 cap (L.map str) ⟨#[]⟩ w hcell hbw (by simp; omega) (by simpa using hcap) (by
      rw [hm, show (⟨#[]⟩ : ByteArray).data.toList = [] from rfl, hj]
      have : L.flatten.length = lensN L := by simp [lensN, List.length_flatten]
      omega)
    rw [hm, show (⟨#[]⟩ : ByteArray).data.toList = [] from rfl, hj, List.length_map] at this
    exact this
/-- What a region keeps: the fabric's rows in its box, and that they can be read. -/
abbrev CW (w0 : World) (b cap : Nat) (L : List (List UInt8)) (w' : World) : Prop :=
  w'.cell? ⟨w0.heap.size, 1, none⟩ = some (.slice (some ⟨b, 0, none⟩) L.length cap) ∧ Hid (RdRow w' (some ⟨b, 0, none⟩) (strs L)) ∧ Hid (Below w0.heap.size w0 w') ∧ Hid (w0.heap.size < w'.heap.size)
theorem cw_below {w0 w' w1 : World} {b cap : Nat} {L : List (List UInt8)} (hb : Below w'.heap.size w' w1) (h : CW w0 b cap L w') : CW w0 b cap L w1 :=
  ⟨(hb.cell (p := ⟨w0.heap.size, 1, none⟩) h.2.2.2.out).trans h.1, h.2.1.out.below hb, below_then h.2.2.1.out hb, Nat.lt_of_lt_of_le h.2.2.2.out hb.size⟩
theorem cw_alloc {w0 w' : World} {b cap : Nat} {L : List (List UInt8)} (o : Obj) (h : CW w0 b cap L w') : CW w0 b cap L (w'.alloc o) := cw_below (below_alloc (Below.refl _ _) _) h
theorem cw_allocd {w0 w' : World} {b cap : Nat} {L : List (List UInt8)} (o : Obj) (h : CW w0 b cap L w'.drew) : CW w0 b cap L (w'.alloc o).drew := cw_alloc o h
theorem cw_R {w0 w' : World} {b cap : Nat} {L : List (List UInt8)} (h : CW w0 b cap L w') : RdRow w' (some ⟨b, 0, none⟩) (strs L) := h.2.1.out
theorem cw_drew {w0 w' : World} {b cap : Nat} {L : List (List UInt8)} (h : CW w0 b cap L w') : CW w0 b cap L w'.drew := ⟨h.1, h.2.1, below_drew h.2.2.1.out, h.2.2.2⟩
theorem cw_B {w0 w' : World} {b cap : Nat} {L : List (List UInt8)} (h : CW w0 b cap L w') : Below w0.heap.size w0 w' := h.2.2.1.out
theorem conv_byte {w : World} {g : Nat} {c : UInt8} (h : w.heap[g]? = some (.cells #[.int .u8 (c.toNat : Int)] 5 (0, 0))) : (convert 52 9 (.slice (some ⟨g, 0, none⟩) 1 1)).run Try.prog w = .ok (.string (str [c])) w :=
  own_string (l := [c]) Try.underlying52 Try.underlying5 Try.underlying9 (own_of_row (base := 0) (n := 1) (size := 1) h rfl (Nat.zero_le _) (by omega))
set_option maxHeartbeats 2000000 in
theorem c_iCountStitch (cast : Int) (b cap : Nat) (L : List (List UInt8)) (c : UInt8) (w : World) (hF : FabAt w cast (some ⟨b, 0, none⟩) cap L) (hcap : L.length ≤ cap) (hlen : L.length + lensN L ≤ 1048576) :
    Calls Try.prog 8 #[.agg #[.int .i16 cast, .slice (some ⟨b, 0, none⟩) L.length cap], .int .u8 (c.toNat : Int)] w fun e w' => e = .returned (.tuple #[.int .i64 (countF cast L c).1, .int .i64 (countF cast L c).2]) ∧ Below w.heap.size w w' := by
  have hb0 : Below w.heap.size w (w.alloc (.cells #[.int .i16 cast, .slice (some ⟨b, 0, none⟩) L.length cap] 29 (0, 0))) := below_alloc (Below.refl _ _) _
  have hA := heap_alloc_new w (.cells #[.int .i16 cast, .slice (some ⟨b, 0, none⟩) L.length cap] 29 (0, 0))
  have CV := Lib.hid (c_ValidFabric cast (some ⟨b, 0, none⟩) cap L _ (hF.below hb0))
  have HB0 := Lib.hid hb0
  have HA := Lib.hid hA
  have HF := Lib.hid hF
  clear hb0 hA hF
  cases q1 : fabOk cast L
  · have E : Hid (countF cast L c = (0, 1)) := by rw [Hid, countF, q1]; rfl
    rw [q1] at CV
    go_enter Try.func8, Try.ntmps8
    go_wp2_with (go_at_call 20; ((with_reducible refine CV.out.mono ?_); rintro e w1 ⟨rfl, hb⟩; have HB1 := Lib.hid (below_then HB0.out hb); clear hb))
    exact bodyPost_ret (v := .tuple #[.int .i64 0, .int .i64 1]) (by simp [results, Try.results8, go_sem]) rfl ⟨by rw [E.out], HB1.out⟩
  · rw [q1] at CV
    cases q2 : stT c with
    | none =>
      have E : Hid (countF cast L c = (0, 5)) := by rw [Hid, countF, q1, q2]; rfl
      have CT := fun w => Lib.hid (stitch_no w c q2)
      clear q2
      go_enter Try.func8, Try.ntmps8
      go_wp2_with (first
        | (go_at_call 20; ((with_reducible refine CV.out.mono ?_); rintro e w1 ⟨rfl, hb⟩; have HB1 := Lib.hid (below_then HB0.out hb); clear hb))
        | (go_at_call 21; ((with_reducible refine (CT _).out.mono ?_); rintro e w3 ⟨rfl, hb⟩; have HB2 := Lib.hid (below_then HB1.out hb); clear hb)))
      exact bodyPost_ret (v := .tuple #[.int .i64 0, .int .i64 5]) (by simp [results, Try.results8, go_sem]) rfl ⟨by rw [E.out], HB2.out.alloc HB2.out.size _⟩
    | some s =>
      have E : Hid (countF cast L c = ((cntL c L : Int), 0)) := by rw [Hid, countF, q1, q2]; rfl
      have CT := fun w => Lib.hid (stitch_u8 w c s q2)
      have CJ := Lib.hid (fun w hR => c_joinRows b cap L w hR hcap hlen)
      have hcv : ∀ wj : World, (convert 52 9 (.slice (some ⟨wj.heap.size, 0, none⟩) 1 1)).run Try.prog (wj.alloc (.cells #[.int .u8 (c.toNat : Int)] 5 (0, 0))) = .ok (.string (str [c])) (wj.alloc (.cells #[.int .u8 (c.toNat : Int)] 5 (0, 0))) := fun wj =>
        own_string (l := [c]) Try.underlying52 Try.underlying5 Try.underlying9 (own_of_row (n := 1) (size := 1) (heap_alloc_new wj _) rfl (Nat.le_refl _) (by omega))
      have CC : ∀ w, Hid (Calls Try.prog 22 #[.string (str L.flatten), .string (str [c])] w fun e w' => e = .returned (.int .i64 (cntL c L : Int)) ∧ w = w') := fun w => by
        have h := Try.strings_Count_one (str L.flatten) c w
        have e2 : Lib.countByte (str L.flatten).data.toList c = cntL c L := by simp [Lib.countByte, str, cntL]
        rw [e2] at h
        exact h.mono fun _ _ h => ⟨h.1, h.2.symm⟩
      clear q2
      go_enter Try.func8, Try.ntmps8
      go_wp2_with (first
        | (go_at_call 20; ((with_reducible refine CV.out.mono ?_); rintro e w1 ⟨rfl, hb⟩; have HB1 := Lib.hid (below_then HB0.out hb); have HA1 := Lib.hid (blk_below HA.out hb); clear hb))
        | (go_at_call 21; ((with_reducible refine (CT _).out.mono ?_); rintro e w3 ⟨rfl, hb⟩; have HB2 := Lib.hid (below_then HB1.out hb); have HA2 := Lib.hid (blk_below HA1.out hb); clear hb)))
      have HS3 : Hid (CW w b cap L (w3.alloc (.cells #[.int .i64 s.1, .int .i64 s.2.1, .int .i64 s.2.2] 47 (0, 0))).drew) := cw_drew (cw_alloc _ ⟨blk_cell HA2.out 1, HF.out.row.below HB2.out, HB2.out, blk_lt HA2.out⟩)
      have HBY : Hid (((w3.alloc (.cells #[.int .i64 s.1, .int .i64 s.2.1, .int .i64 s.2.2] 47 (0, 0))).drew.alloc (.cells #[.int .u8 (c.toNat : Int)] 5 (0, 0))).heap[w3.heap.size + 1]? = some (.cells #[.int .u8 (c.toNat : Int)] 5 (0, 0))) := by
        have := heap_alloc_new (w3.alloc (.cells #[.int .i64 s.1, .int .i64 s.2.1, .int .i64 s.2.2] 47 (0, 0))).drew (.cells #[.int .u8 (c.toNat : Int)] 5 (0, 0))
        rw [show (w3.alloc (.cells #[.int .i64 s.1, .int .i64 s.2.1, .int .i64 s.2.2] 47 (0, 0))).drew.heap.size = w3.heap.size + 1 from World.size_alloc ..] at this
        exact this
      have hcv3 : (convert 52 9 (.slice (some ⟨w3.heap.size + 1, 0, none⟩) 1 1)).run Try.prog ((w3.alloc (.cells #[.int .i64 s.1, .int .i64 s.2.1, .int .i64 s.2.2] 47 (0, 0))).alloc (.cells #[.int .u8 (c.toNat : Int)] 5 (0, 0))).drew = .ok (.string (str [c])) ((w3.alloc (.cells #[.int .i64 s.1, .int .i64 s.2.1, .int .i64 s.2.2] 47 (0, 0))).alloc (.cells #[.int .u8 (c.toNat : Int)] 5 (0, 0))).drew := conv_byte HBY.out
      have x0 : (w3.alloc (.cells #[.int .i64 s.1, .int .i64 s.2.1, .int .i64 s.2.2] 47 (0, 0))).cell? ⟨w.heap.size, 1, none⟩ = some (.slice (some ⟨b, 0, none⟩) L.length cap) := HS3.out.1
      have x0d : (w3.alloc (.cells #[.int .i64 s.1, .int .i64 s.2.1, .int .i64 s.2.2] 47 (0, 0))).drew.cell? ⟨w.heap.size, 1, none⟩ = some (.slice (some ⟨b, 0, none⟩) L.length cap) := HS3.out.1
      have y0 : w3.cell? ⟨w.heap.size, 1, none⟩ = some (.slice (some ⟨b, 0, none⟩) L.length cap) := blk_cell HA2.out 1
      have y1 := blk_lt HA2.out
      go_region_with (first
        | (go_at_call 23; ((refine (CJ.out _ ?_).mono ?_); (first | exact cw_R HS3.out | exact cw_R (cw_allocd _ HS3.out) | exact cw_R (cw_alloc _ HS3.out)); rintro e wj ⟨rfl, hbj⟩; (try have hcv2 := conv_byte (blk_below HBY.out hbj))))
        | (go_at_call 22; ((with_reducible refine (CC _).out.mono ?_); rintro e wk ⟨rfl, rfl⟩)))
      all_goals
        go_wp2
        refine bodyPost_ret (v := .tuple #[.int .i64 (cntL c L : Int), .int .i64 0]) (by simp [results, Try.results8, go_sem]) rfl ⟨by rw [E.out], ?_⟩
        first
          | exact cw_B (cw_below hbj (cw_allocd _ HS3.out))
          | exact cw_B (cw_below hbj (cw_alloc _ HS3.out))
          | exact cw_B (cw_alloc _ (cw_below hbj HS3.out))
          | exact cw_B (cw_drew (cw_alloc _ (cw_below hbj HS3.out)))
end Go.Proofs.Ytdcemmhfbfogdaa
