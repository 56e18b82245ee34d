/- Texts laid together: JoinW, SplitNum. -/
import Derived.Test.YtjhifpidbobmaaaGreatDoorMg29
import Derived.Lib.ItoaLen
/- Numbers joined to a text; a text split into numbers: the program's functions. -/
namespace Go.Proofs.YtjhifpidbobmaaaGreatDoor
open Go.RowKit
set_option linter.unusedVariables false
set_option linter.unusedSimpArgs false
set_option maxRecDepth 100000

theorem c_decimalI (n : Int) (h0 : -9223372036854775808 ≤ n) (h1 : n ≤ 9223372036854775807) (w : World) (ht : TabW w) : Calls Tryz.prog 64 #[.int .i64 n] w fun e w' => e = .returned (.string (str (Lib.itoa n))) ∧ Below w.heap.size w w' := by
  have CF : Hid (Calls Tryz.prog 83 #[.int .i64 n, .int .i64 10] w fun e w' => e = .returned (.string (str (Lib.itoa n))) ∧ Below w.heap.size w w') := by
    have h := Tryz.strconv_FormatInt_10 n h0 h1 w ht
    refine h.mono fun e w' h => ?_
    obtain ⟨h1, k, os, rfl⟩ := h
    exact ⟨h1, Go.Lib.below_grow _ w (Nat.le_refl _) k os⟩
  clear ht
  go_enter Tryz.func64, Tryz.ntmps64
  go_wp2_with (go_at_call 83; ((with_reducible refine CF.out.mono ?_); rintro e w1 ⟨rfl, hb⟩))
  go_ret
  exact ⟨rfl, hb⟩
def joinI (b : UInt8) (zs : List Int) : List UInt8 := Lib.join (zs.map Lib.itoa) [b]
theorem join_len (sep : List UInt8) (m : Nat) (hs : sep.length ≤ 1) : ∀ L : List (List UInt8), (∀ l ∈ L, l.length ≤ m) → (Lib.join L sep).length ≤ (m + 1) * L.length
  | [], _ => by simp [Lib.join, List.intercalate]
  | [x], h => by
    have := h x (by simp)
    rw [Lib.join_one]; simp; omega
  | x :: y :: M, h => by
    have ih := join_len sep m hs (y :: M) (fun l hl => h l (by simp only [List.mem_cons] at hl ⊢; exact .inr hl))
    have e : Lib.join (x :: y :: M) sep = x ++ sep ++ Lib.join (y :: M) sep := by simp [Lib.join, List.intercalate]
    have hx := h x (by simp)
    rw [e, List.length_append, List.length_append]
    simp only [List.length_cons] at ih ⊢
    rw [Nat.mul_add]
    omega
theorem joinI_len (b : UInt8) {zs : List Int} (h : ∀ z ∈ zs, -9223372036854775808 ≤ z ∧ z ≤ 9223372036854775807) : (joinI b zs).length ≤ 22 * zs.length := by
  have := join_len [b] 21 (by simp) (zs.map Lib.itoa) (fun l hl => by
    obtain ⟨z, hz, rfl⟩ := List.mem_map.1 hl
    exact Lib.itoa_length_le z (h z hz).1 (h z hz).2)
  rw [List.length_map] at this
  exact this
/-- strings.Join of a row of texts of the call's own, at a byte. -/
theorem c_joinRow (v : Value) (base n : Nat) (b : UInt8) (L : List (List UInt8)) (w : World) (hL : L.length = n) (hO : w.ownsRow base 9 1 v n (strs L)) (hlen : (Lib.join L [b]).length ≤ 1000000000) (hn : n ≤ 1100000) :
    Calls Tryz.prog 65 #[v, .string ⟨#[b]⟩] w fun e w' => e = .returned (.string (str (Lib.join L [b]))) ∧ Below w.heap.size w w' := by
  subst hL
  rcases hO.2 with ⟨rfl, h0⟩ | ⟨gb, cap, cur, rfl, _, hgb, hnc, hcm, _⟩
  · obtain rfl := List.eq_nil_of_length_eq_zero h0
    refine (Tryz.strings_Join_none none 0 ⟨#[b]⟩ w).mono fun e w' h => ?_
    obtain ⟨rfl, rfl⟩ := h
    exact ⟨rfl, Below.refl _ _⟩
  · have hm : (L.map str).map (·.data.toList) = L := by
      rw [List.map_map]
      conv => rhs; rw [← List.map_id L]
      exact List.map_congr_left fun l _ => by simp [str]
    have := Tryz.strings_Join gb 0 cap (L.map str) ⟨#[b]⟩ w (fun j x hj => by
        obtain ⟨l, hl, rfl⟩ := List.getElem?_eq_some_iff.1 hj
        have hjl : j < L.length := by simpa using l
        have := (own_get hO (strs_get hjl)).1
        rw [Nat.zero_add, this]
        simp [List.getD_eq_getElem?_getD, hjl]) (own_lo hO (Nat.le_refl _) gb rfl) (by simp only [List.length_map]; omega) (by simpa using hnc) (by rw [hm]; exact Nat.le_trans hlen (by decide))
    rw [hm, List.length_map] at this
    exact this
set_option maxHeartbeats 2000000 in
theorem c_joined (A : Option Addr) (c : Nat) (b : UInt8) (zs : List Int) (w : World) (hR : RdRow w A (nums .i64 zs)) (hn : zs.length ≤ 1048577) (hz : ∀ z ∈ zs, -9223372036854775808 ≤ z ∧ z ≤ 9223372036854775807) (ht : TabW w) :
    Calls Tryz.prog 81 #[.slice A zs.length c, .string ⟨#[b]⟩] w fun e w' => e = .returned (.string (str (joinI b zs))) ∧ Below w.heap.size w w' := by
  have HR := Lib.hid hR
  have HZ := Lib.hid hz
  have HT : Hid (TabW w) := ht
  clear hR hz ht
  go_enter Tryz.func81, Tryz.ntmps81
  go_wp2
  go_loopw [10, 5] (fun i v wr => ∃ k : Nat, k ≤ zs.length ∧ i = .int .i64 k ∧ Hid (wr.ownsRow w.heap.size 9 1 v k (strs ((zs.take k).map Lib.itoa))) ∧ Hid (Below w.heap.size w wr)) (fun i _ _ => zs.length - (intOf i).toNat)
  case atStart => exact ⟨0, by omega, rfl, own_nil _ _ _ _, Below.refl _ _⟩
  case round =>
    obtain ⟨k, hk, rfl, hO, hB⟩ := hrel
    by_cases hlt : k < zs.length
    · have d1 : decide ((k : Int) < (zs.length : Int)) = true := by simp; omega
      have k0 : (0 : Int) ≤ (k : Int) := by omega
      have k1 : (k : Int) < (zs.length : Int) := by omega
      have hg : (nums .i64 zs)[k]? = some (.int .i64 zs[k]) := by simp [nums, hlt]
      obtain ⟨ad, rfl, x0⟩ := (HR.out.below hB.out) k _ hg
      have hzk := HZ.out _ (List.getElem_mem hlt)
      have HE : Hid (strs ((zs.take (k + 1)).map Lib.itoa) = strs ((zs.take k).map Lib.itoa) ++ [.string (str (Lib.itoa zs[k]))]) := by
        rw [Hid, List.take_add_one, List.getElem?_eq_getElem hlt]
        rw [strs, strs, List.map_append, List.map_append]
        rfl
      generalize zs[k] = z at *
      have CD := Lib.hid (c_decimalI z hzk.1 hzk.2 wr (tab_below HT.out hB.out))
      clear hg
      go_wp2_with (first
        | (go_at_call 64; ((with_reducible refine CD.out.mono ?_); rintro e w1 ⟨rfl, hb⟩; have HO1 := Lib.hid (own_below hO.out hb); have HB1 := Lib.hid (below_then hB.out hb); clear hb))
        | (at_builtin; refine ap1 rfl (.tmp 14) (.tmp 17) 59 9 rfl (.string (str [])) 1 16 w.heap.size Tryz.underlying59 (by kernel_rfl) rfl (by decide) u5 k (strs ((zs.take k).map Lib.itoa)) [.string (str (Lib.itoa z))] rfl rfl (by simp) rfl rfl HO1.out HB1.out.size (by omega) (by omega) ?_; intro g3 d3 w5 hown hg3 hat; have HB5 := Lib.hid (below_grown HB1.out hg3 HO1.out (Nat.le_refl _) HB1.out.size); have HO5 := Lib.hid hown; clear hown hat hg3))
      go_roundw
      case rel => exact ⟨k + 1, by omega, by go_num, by rw [HE.out]; exact HO5, HB5⟩
      case measure => simp [intOf]; omega
    · obtain rfl : k = zs.length := by omega
      have d1 : decide ((zs.length : Int) < (zs.length : Int)) = false := by simp
      rw [List.take_length] at hO
      have hl := joinI_len b HZ.out
      have CJ := Lib.hid (c_joinRow u5 w.heap.size zs.length b (zs.map Lib.itoa) wr (by simp) hO.out (by unfold joinI at hl; omega) (by omega))
      clear hl
      go_wp2_with (go_at_call 65; ((with_reducible refine CJ.out.mono ?_); rintro e w1 ⟨rfl, hb⟩))
      exact bodyPost_ret (v := .string (str (Lib.join (zs.map Lib.itoa) [b]))) (by simp [results, Tryz.results81, go_sem]) rfl ⟨rfl, below_then hB.out hb⟩
end Go.Proofs.YtjhifpidbobmaaaGreatDoor
/- A text split into numbers: the program's function. -/
namespace Go.Proofs.YtjhifpidbobmaaaGreatDoor
open Go.RowKit
set_option linter.unusedVariables false
set_option linter.unusedSimpArgs false
set_option maxRecDepth 100000

theorem row_get' {w : World} {P : List (List UInt8)} {ty : TypeId} : ∀ j u, (strs P)[j]? = some u → (w.alloc (.cells (strs P).toArray ty (0, 0))).cell? ⟨w.heap.size, j, none⟩ = some u := fun j u hj => by
  rw [cell_of_row _ w.heap.size j _ _ _ (heap_alloc_new w _)]
  simpa using hj
theorem splitS_lens2 {b : UInt8} (t : List UInt8) : (∀ l ∈ (splitS b t).1, l.length ≤ t.length) ∧ (splitS b t).2.length ≤ t.length := by
  have e := congrArg List.length (splitS_parts (by_ := b) t).eq
  rw [List.length_append] at e
  refine ⟨fun l hl => ?_, by omega⟩
  have : l.length ≤ (joinD b (splitS b t).1).length := by
    clear e
    generalize (splitS b t).1 = d at hl
    induction d with
    | nil => simp at hl
    | cons x d ih =>
      simp only [joinD, List.flatMap_cons, List.length_append, List.length_singleton] at ih ⊢
      rcases List.mem_cons.1 hl with rfl | hl
      · omega
      · have := ih hl; omega
  omega
theorem splitL_lens {b : UInt8} {t : List UInt8} : ∀ l ∈ splitL b t, l.length ≤ t.length := fun l hl => by
  have h := splitS_lens2 (b := b) t
  rcases List.mem_append.1 hl with hl | hl
  · exact h.1 l hl
  · rw [List.mem_singleton.1 hl]; exact h.2
theorem splitL_num (b : UInt8) (t : List UInt8) : (splitL b t).length ≤ t.length + 1 := by
  have := splitS_num b t
  rw [splitL, List.length_append]; simp; omega
theorem dec_no2 {b : UInt8} (hb : isD b = false) (n : Nat) : b ∉ Lib.decDigits n := fun hm => by
  have := List.all_eq_true.1 (dec_facts n).1 b hm
  rw [hb] at this
  cases this
theorem split_two {b : UInt8} (hb : isD b = false) (x y : Nat) : splitL b (Lib.decDigits x ++ b :: Lib.decDigits y) = [Lib.decDigits x, Lib.decDigits y] := by
  rw [splitL_cons (dec_no2 hb x), splitL_none (dec_no2 hb y)]
theorem joinI_two (b : UInt8) (x y : Nat) : joinI b [(x : Int), (y : Int)] = Lib.decDigits x ++ b :: Lib.decDigits y := by
  simp [joinI, Lib.join, List.intercalate, Lib.itoa_nonneg]
set_option maxHeartbeats 4000000 in
theorem c_split (t : List UInt8) (ht : t.length ≤ 1048576) (b : UInt8) (hb : isD b = false) : ∃ (zs : List Int) (one : Bool), (∀ z ∈ zs, -9223372036854775808 ≤ z ∧ z ≤ 9223372036854775807) ∧ zs.length ≤ 1048577 ∧
    (∀ x y : Nat, x < 32768 → y < 32768 → t = Lib.decDigits x ++ b :: Lib.decDigits y → zs = [(x : Int), (y : Int)] ∧ one = true) ∧ ∀ w, Laid w →
    Calls Tryz.prog 62 #[.string (str t), .string ⟨#[b]⟩] w fun e w' => ∃ v, e = .returned (.tuple #[v, .bool one]) ∧ w'.ownsRow w.heap.size 2 1 v zs.length (nums .i64 zs) ∧ Below w.heap.size w w' := by
  obtain ⟨F, HF⟩ := Classical.axiomOfChoice (r := fun (l : List UInt8) (r : Int × Bool) => l.length ≤ 1048576 → (-9223372036854775808 ≤ r.1 ∧ r.1 ≤ 9223372036854775807) ∧ (∀ n, n < 32768 → l = Lib.decDigits n → r.2 = true ∧ r.1 = (n : Int)) ∧ ∀ w, Laid w →
      Calls Tryz.prog 63 #[.string (str l), .int .i64 64] w fun e w' => e = .returned (.tuple #[.int .i64 r.1, .bool r.2]) ∧ Below w.heap.size w w') (fun l => by
    by_cases hl : l.length ≤ 1048576
    · obtain ⟨v, ok, h⟩ := c_small64 l hl
      exact ⟨(v, ok), fun _ => h⟩
    · exact ⟨(0, false), fun h => absurd h hl⟩)
  have hPL : ∀ l ∈ splitL b t, l.length ≤ 1048576 := fun l hl => Nat.le_trans (splitL_lens l hl) ht
  have hnum := splitL_num b t
  by_cases hall : ∀ p ∈ splitL b t, (F p).2 = true
  · have hzb : ∀ z ∈ (splitL b t).map fun p => (F p).1, -9223372036854775808 ≤ z ∧ z ≤ 9223372036854775807 := fun z hz => by
      obtain ⟨p, hp, rfl⟩ := List.mem_map.1 hz
      exact (HF p (hPL p hp)).1
    refine ⟨(splitL b t).map fun p => (F p).1, decide (joinI b ((splitL b t).map fun p => (F p).1) = t), hzb, by rw [List.length_map]; omega, fun x y hx hy e => ?_, fun w hL => ?_⟩
    · have e2 : splitL b t = [Lib.decDigits x, Lib.decDigits y] := by rw [e]; exact split_two hb x y
      have e3 : ((splitL b t).map fun p => (F p).1) = [(x : Int), (y : Int)] := by
        rw [e2] at hPL ⊢
        have h1 := (HF _ (hPL (Lib.decDigits x) (by simp))).2.1 x hx rfl
        have h2 := (HF _ (hPL (Lib.decDigits y) (by simp))).2.1 y hy rfl
        simp [h1.2, h2.2]
      rw [e3]
      exact ⟨rfl, by rw [decide_eq_true_eq, e]; exact joinI_two b x y⟩
    obtain ⟨m, hm⟩ := hL.top
    have HLD : Hid (Laid w) := hL
    have HPL := hPL
    go_enter Tryz.func62, Tryz.ntmps62
    go_wp2_with (go_at_call 32; ((with_reducible refine (c_Split t b m w ht hm).mono ?_); rintro e w1 ⟨rfl, rfl⟩))
    go_loopw [15, 6] (fun i v wr => ∃ k : Nat, k ≤ (splitL b t).length ∧ i = .int .i64 k ∧ Hid (∀ p ∈ (splitL b t).take k, (F p).2 = true) ∧ Hid (wr.ownsRow (w.heap.size + 1) 2 1 v k (nums .i64 (((splitL b t).take k).map fun p => (F p).1))) ∧ Hid (Below (w.heap.size + 1) (w.alloc (.cells (strs (splitL b t)).toArray 9 (0, 0))) wr)) (fun i _ _ => (splitL b t).length - (intOf i).toNat)
    case atStart => exact ⟨0, by omega, rfl, fun p hp => by simp at hp, own_nil _ _ _ _, Below.refl _ _⟩
    case round =>
      obtain ⟨k, hk, rfl, hok, hO, hB⟩ := hrel
      by_cases hlt : k < (splitL b t).length
      · have d1 : decide ((k : Int) < ((splitL b t).length : Int)) = true := by simp; omega
        have k0 : (0 : Int) ≤ (k : Int) := by omega
        have k1 : (k : Int) < ((splitL b t).length : Int) := by omega
        have x0 : wr.cell? ⟨w.heap.size, k, none⟩ = some (.string (str (splitL b t)[k])) := by
          rw [hB.out.cell (p := ⟨w.heap.size, k, none⟩) (Nat.lt_succ_self _)]
          exact row_get' k _ (by simp [strs, hlt])
        have hpl := HPL _ (List.getElem_mem hlt)
        have HFk := HF _ hpl
        have HE : Hid (nums .i64 (((splitL b t).take (k + 1)).map fun p => (F p).1) = nums .i64 (((splitL b t).take k).map fun p => (F p).1) ++ [.int .i64 (F (splitL b t)[k]).1]) := by
          rw [Hid, List.take_add_one, List.getElem?_eq_getElem hlt, nums, nums, List.map_append, List.map_append]
          rfl
        have HT : Hid ((splitL b t).take (k + 1) = (splitL b t).take k ++ [(splitL b t)[k]]) := by rw [Hid, List.take_add_one, List.getElem?_eq_getElem hlt]; rfl
        have HM := Lib.hid (List.getElem_mem hlt)
        generalize (splitL b t)[k] = p at *
        have CS := Lib.hid (HFk.2.2 wr ((hL.below (below_alloc (Below.refl _ _) _)).below (by rw [World.size_alloc]; exact hB.out)))
        cases hp : (F p).2
        · rw [hp] at CS
          exfalso
          have := hall p HM.out
          rw [hp] at this
          cases this
        · rw [hp] at CS
          have HOK : Hid (∀ q ∈ (splitL b t).take (k + 1), (F q).2 = true) := fun q hq => by
            rw [HT.out] at hq
            rcases List.mem_append.1 hq with hq | hq
            · exact hok.out q hq
            · rw [List.mem_singleton.1 hq]; exact hp
          have HHZ := Lib.hid (blk_lt (heap_alloc_new w (.cells (strs (splitL b t)).toArray 9 (0, 0))))
          clear hp
          generalize (F p).1 = z at *
          go_wp2_with (first
            | (go_at_call 63; ((with_reducible refine CS.out.mono ?_); rintro e w2 ⟨rfl, hb⟩; have HO1 := Lib.hid (own_below hO.out hb); have HB1 := Lib.hid (hB.out.trans (hb.mono (by have := hB.out.size; rw [World.size_alloc] at this; exact this))); clear hb))
            | (at_builtin; refine ap1 rfl (.tmp 26) (.tmp 28) 50 2 rfl (.int .i64 0) 1 8 (w.heap.size + 1) Tryz.underlying50 (by kernel_rfl) rfl (by decide) u6 k (nums .i64 (((splitL b t).take k).map fun p => (F p).1)) [.int .i64 z] rfl rfl (by simp) rfl rfl HO1.out (by have := HB1.out.size; rw [World.size_alloc] at this; exact this) (by omega) (by omega) ?_; intro g3 d3 w5 hown hg3 hat; have HB5 := Lib.hid (below_grown HB1.out hg3 HO1.out (Nat.le_refl _) (by have := HB1.out.size; rw [World.size_alloc] at this; exact this)); have HO5 := Lib.hid hown; clear hown hat hg3))
          go_roundw
          case rel => exact ⟨k + 1, by omega, by go_num, HOK, by rw [HE.out]; exact HO5, HB5⟩
          case measure => simp [intOf]; omega
      · obtain rfl : k = (splitL b t).length := by omega
        have d1 : decide (((splitL b t).length : Int) < ((splitL b t).length : Int)) = false := by simp
        rw [List.take_length] at hO
        have hml : ((splitL b t).map fun p => (F p).1).length = (splitL b t).length := List.length_map ..
        obtain ⟨zs, hzs⟩ : ∃ zs, zs = ((splitL b t).map fun p => (F p).1) := ⟨_, rfl⟩
        rw [← hzs] at hO hzb hml
        have HZS := Lib.hid hzs
        clear hzs
        obtain ⟨A6, c6, rfl, _⟩ := own_form hO.out
        have hCJ := c_joined A6 c6 b zs wr (own_rd hO.out) (by omega) hzb ((HLD.out.below (below_alloc (Below.refl _ _) _)).below (by rw [World.size_alloc]; exact hB.out)).tab
        rw [hml] at hCJ
        have CJ := Lib.hid hCJ
        have HW := Lib.hid ((below_alloc (Below.refl w.heap.size w) (.cells (strs (splitL b t)).toArray 9 (0, 0))).trans (hB.out.mono (Nat.le_succ _)))
        have hsl : w.heap.size ≤ wr.heap.size := HW.out.size
        clear hCJ hzb
        by_cases he : joinI b zs = t
        · have dt : ((str (joinI b zs)).toList == (str t).toList) = true := by rw [he]; simp
          have de : decide (joinI b zs = t) = true := by simpa using he
          have DE := Lib.hid de
          clear he de
          go_wp2_with (go_at_call 81; ((with_reducible refine CJ.out.mono ?_); rintro e w1 ⟨rfl, hb⟩; have HB2 := Lib.hid (below_then HW.out hb); have HO2 := Lib.hid (own_mono (own_below hO.out hb) (Nat.le_succ w.heap.size)); clear hb))
          exact bodyPost_ret (v := .tuple #[.slice A6 (splitL b t).length c6, .bool true]) (by simp [results, Tryz.results62, go_sem]) rfl ⟨_, by rw [← HZS.out, DE.out], by rw [← HZS.out, hml]; exact HO2.out, HB2.out⟩
        · have dt : ((str (joinI b zs)).toList == (str t).toList) = false := by rw [str_toList, str_toList]; simpa using he
          have de : decide (joinI b zs = t) = false := by simpa using he
          have DE := Lib.hid de
          clear he de
          go_wp2_with (go_at_call 81; ((with_reducible refine CJ.out.mono ?_); rintro e w1 ⟨rfl, hb⟩; have HB2 := Lib.hid (below_then HW.out hb); have HO2 := Lib.hid (own_mono (own_below hO.out hb) (Nat.le_succ w.heap.size)); clear hb))
          exact bodyPost_ret (v := .tuple #[.slice A6 (splitL b t).length c6, .bool false]) (by simp [results, Tryz.results62, go_sem]) rfl ⟨_, by rw [← HZS.out, DE.out], by rw [← HZS.out, hml]; exact HO2.out, HB2.out⟩

  · refine ⟨[], false, fun z hz => by simp at hz, by simp, fun x y hx hy e => ?_, fun w hL => ?_⟩
    · exfalso
      have e2 : splitL b t = [Lib.decDigits x, Lib.decDigits y] := by rw [e]; exact split_two hb x y
      refine hall fun p hp => ?_
      have hl := hPL p hp
      rw [e2] at hp
      simp only [List.mem_cons, List.mem_nil_iff, or_false] at hp
      rcases hp with rfl | rfl
      · exact ((HF _ hl).2.1 x hx rfl).1
      · exact ((HF _ hl).2.1 y hy rfl).1
    obtain ⟨m, hm⟩ := hL.top
    have HLD : Hid (Laid w) := hL
    have HN : Hid (¬ ∀ p ∈ splitL b t, (F p).2 = true) := hall
    clear hall
    have HPL := hPL
    go_enter Tryz.func62, Tryz.ntmps62
    go_wp2_with (go_at_call 32; ((with_reducible refine (c_Split t b m w ht hm).mono ?_); rintro e w1 ⟨rfl, rfl⟩))
    go_loopw [15, 6] (fun i v wr => ∃ k : Nat, k ≤ (splitL b t).length ∧ i = .int .i64 k ∧ Hid (∀ p ∈ (splitL b t).take k, (F p).2 = true) ∧ Hid (wr.ownsRow (w.heap.size + 1) 2 1 v k (nums .i64 (((splitL b t).take k).map fun p => (F p).1))) ∧ Hid (Below (w.heap.size + 1) (w.alloc (.cells (strs (splitL b t)).toArray 9 (0, 0))) wr)) (fun i _ _ => (splitL b t).length - (intOf i).toNat)
    case atStart => exact ⟨0, by omega, rfl, fun p hp => by simp at hp, own_nil _ _ _ _, Below.refl _ _⟩
    case round =>
      obtain ⟨k, hk, rfl, hok, hO, hB⟩ := hrel
      by_cases hlt : k < (splitL b t).length
      · have d1 : decide ((k : Int) < ((splitL b t).length : Int)) = true := by simp; omega
        have k0 : (0 : Int) ≤ (k : Int) := by omega
        have k1 : (k : Int) < ((splitL b t).length : Int) := by omega
        have x0 : wr.cell? ⟨w.heap.size, k, none⟩ = some (.string (str (splitL b t)[k])) := by
          rw [hB.out.cell (p := ⟨w.heap.size, k, none⟩) (Nat.lt_succ_self _)]
          exact row_get' k _ (by simp [strs, hlt])
        have hpl := HPL _ (List.getElem_mem hlt)
        have HFk := HF _ hpl
        have HE : Hid (nums .i64 (((splitL b t).take (k + 1)).map fun p => (F p).1) = nums .i64 (((splitL b t).take k).map fun p => (F p).1) ++ [.int .i64 (F (splitL b t)[k]).1]) := by
          rw [Hid, List.take_add_one, List.getElem?_eq_getElem hlt, nums, nums, List.map_append, List.map_append]
          rfl
        have HT : Hid ((splitL b t).take (k + 1) = (splitL b t).take k ++ [(splitL b t)[k]]) := by rw [Hid, List.take_add_one, List.getElem?_eq_getElem hlt]; rfl
        have HM := Lib.hid (List.getElem_mem hlt)
        generalize (splitL b t)[k] = p at *
        have CS := Lib.hid (HFk.2.2 wr ((hL.below (below_alloc (Below.refl _ _) _)).below (by rw [World.size_alloc]; exact hB.out)))
        cases hp : (F p).2
        · rw [hp] at CS
          go_wp2_with (go_at_call 63; ((with_reducible refine CS.out.mono ?_); rintro e w2 ⟨rfl, hb⟩; have HB1 := Lib.hid (hB.out.trans (hb.mono (by have := hB.out.size; rw [World.size_alloc] at this; exact this))); clear hb))
          exact bodyPost_ret (v := .tuple #[.slice none 0 0, .bool false]) (by simp [results, Tryz.results62, go_sem]) rfl ⟨_, rfl, own_nil _ _ _ _, (below_alloc (Below.refl _ _) _).trans (HB1.out.mono (Nat.le_succ _))⟩
        · rw [hp] at CS
          have HOK : Hid (∀ q ∈ (splitL b t).take (k + 1), (F q).2 = true) := fun q hq => by
            rw [HT.out] at hq
            rcases List.mem_append.1 hq with hq | hq
            · exact hok.out q hq
            · rw [List.mem_singleton.1 hq]; exact hp
          have HHZ := Lib.hid (blk_lt (heap_alloc_new w (.cells (strs (splitL b t)).toArray 9 (0, 0))))
          clear hp
          generalize (F p).1 = z at *
          go_wp2_with (first
            | (go_at_call 63; ((with_reducible refine CS.out.mono ?_); rintro e w2 ⟨rfl, hb⟩; have HO1 := Lib.hid (own_below hO.out hb); have HB1 := Lib.hid (hB.out.trans (hb.mono (by have := hB.out.size; rw [World.size_alloc] at this; exact this))); clear hb))
            | (at_builtin; refine ap1 rfl (.tmp 26) (.tmp 28) 50 2 rfl (.int .i64 0) 1 8 (w.heap.size + 1) Tryz.underlying50 (by kernel_rfl) rfl (by decide) u6 k (nums .i64 (((splitL b t).take k).map fun p => (F p).1)) [.int .i64 z] rfl rfl (by simp) rfl rfl HO1.out (by have := HB1.out.size; rw [World.size_alloc] at this; exact this) (by omega) (by omega) ?_; intro g3 d3 w5 hown hg3 hat; have HB5 := Lib.hid (below_grown HB1.out hg3 HO1.out (Nat.le_refl _) (by have := HB1.out.size; rw [World.size_alloc] at this; exact this)); have HO5 := Lib.hid hown; clear hown hat hg3))
          go_roundw
          case rel => exact ⟨k + 1, by omega, by go_num, HOK, by rw [HE.out]; exact HO5, HB5⟩
          case measure => simp [intOf]; omega
      · obtain rfl : k = (splitL b t).length := by omega
        have d1 : decide (((splitL b t).length : Int) < ((splitL b t).length : Int)) = false := by simp
        exact absurd (by rw [List.take_length] at hok; exact hok.out) HN.out

end Go.Proofs.YtjhifpidbobmaaaGreatDoor
