/- The reference's widths, ladders and worst loop of a valid fabric. -/
import Derived.Test.YtepdgbgolopejaaLdLaw
import Derived.Test.YtepdgbgolopejaaSameHas
import Derived.Deep.QuietTactic
import Derived.StillTailTactics
namespace Go.Proofs.Ytepdgbgolopejaa
open Go.RowKit
set_option linter.unusedVariables false
set_option linter.unusedSimpArgs false
set_option maxRecDepth 100000

/-- How long the ladders of the last row's loops are. -/
def ladN (L : List (List UInt8)) (k : Nat) : Nat := (ladP L k (L.length + 1)).length
theorem ladN_U (L : List (List UInt8)) (k : Nat) : (ladU L k (L.length + 1)).length = ladN L k := by rw [ladU_P, List.length_map]; rfl
theorem ladN_pos {cast : Int} {L : List (List UInt8)} (hV : FabV cast L) {a : Nat} (ha : a < widN cast L L.length) : 0 < ladN L a := (ladF_of hV ha).pos
abbrev worstT (p : Nat × Nat) (c : Int) : Value := .tuple #[.int .i64 (p.1 : Int), .int .i64 (p.2 : Int), .int .i64 c]
set_option maxHeartbeats 1000000 in
theorem c_sWidthsOf (cast : Int) (A : Option Addr) (cap : Nat) (L : List (List UInt8)) (w : World) (hF : FabAt w cast A cap L) (hok : fabOk cast L = true) :
    Calls Try.prog 6 #[.agg #[.int .i16 cast, .slice A L.length cap]] w fun e w' => ∃ v, e = .returned (.tuple #[v, .int .i64 0]) ∧ w'.ownsRow w.heap.size 2 1 v (L.length + 1) (nums .i64 (widL cast L (L.length + 1))) ∧ Below w.heap.size w w' := by
  have hb0 : Below w.heap.size w (w.alloc (.cells #[.int .i16 cast, .slice A L.length cap] 27 (0, 0))) := below_alloc (Below.refl _ _) _
  have hA := heap_alloc_new w (.cells #[.int .i16 cast, .slice A L.length cap] 27 (0, 0))
  have CO := Lib.hid (c_l05Ok w.heap.size cast A cap L _ (hF.below hb0) hA)
  have HB0 := Lib.hid hb0
  have HA := Lib.hid hA
  have HF := Lib.hid (hF.below hb0)
  have hV := fabV_of hok
  have CW := Lib.hid (fun w' h h2 => c_l05Widths w.heap.size cast A cap L w' h hV h2)
  rw [hok] at CO
  clear hb0 hA hF hok hV
  go_enter Try.func6, Try.ntmps6
  go_wp2_with (first
    | (go_at_call 24; ((with_reducible refine CO.out.mono ?_); rintro e w1 ⟨rfl, hb⟩; have HB1 := Lib.hid (below_then HB0.out hb); have HA1 := Lib.hid (blk_below HA.out hb); have HF1 := Lib.hid (HF.out.below hb); clear hb))
    | (go_at_call 25; ((refine (CW.out _ HF1.out HA1.out).mono ?_); rintro e w2 ⟨v, rfl, hO, hb⟩; have HO := Lib.hid (own_mono hO HB1.out.size); have HB2 := Lib.hid (below_then HB1.out hb); clear hb hO)))
  exact bodyPost_ret (v := .tuple #[v, .int .i64 0]) (by simp [results, Try.results6, go_sem]) rfl ⟨v, rfl, HO.out, HB2.out⟩
set_option maxHeartbeats 1000000 in
theorem c_sWorstLoop (cast : Int) (A : Option Addr) (cap : Nat) (L : List (List UInt8)) (w : World) (hF : FabAt w cast A cap L) (hok : fabOk cast L = true) (c : Int) (hc : c = if widN cast L L.length = 0 then 6 else 0) :
    Calls Try.prog 8 #[.agg #[.int .i16 cast, .slice A L.length cap]] w fun e w' => e = .returned (worstT (worstP (ladN L) (widN cast L L.length)) c) ∧ Below w.heap.size w w' := by
  have hb0 : Below w.heap.size w (w.alloc (.cells #[.int .i16 cast, .slice A L.length cap] 27 (0, 0))) := below_alloc (Below.refl _ _) _
  have hA := heap_alloc_new w (.cells #[.int .i16 cast, .slice A L.length cap] 27 (0, 0))
  have CO := Lib.hid (c_l05Ok w.heap.size cast A cap L _ (hF.below hb0) hA)
  have HB0 := Lib.hid hb0
  have HA := Lib.hid hA
  have HF := Lib.hid (hF.below hb0)
  have hV := fabV_of hok
  have CL := Lib.hid (fun (k : Nat) w' h h2 => c_l05Last w.heap.size cast (k : Int) A cap L w' h hV h2)
  have CD := Lib.hid (fun a w' h hg ha => ladN_U L a ▸ c_l05Ladder w.heap.size a (L.length + 1) cast (-1) A cap L w' h hV hg ha (Nat.le_refl _) (by omega))
  have HP := Lib.hid (fun a (ha : a < widN cast L L.length) => ladN_pos hV ha)
  have HL := Lib.hid (worstP_le (ladN L) (widN cast L L.length))
  have hw60 := hV.wid L.length (Nat.le_refl _)
  have HFst := Lib.hid (worstP_fst (ladN L))
  have HC : Hid (c = if widN cast L L.length = 0 then 6 else 0) := hc
  rw [hok] at CO
  clear hb0 hA hF hok hV hc
  generalize widN cast L L.length = W at *
  have HN : Hid (∀ k, ladN L k = ladN L k) := fun _ => rfl
  generalize ladN L = f at *
  go_enter Try.func8, Try.ntmps8
  go_wp2_with (first
    | (go_at_call 24; ((with_reducible refine CO.out.mono ?_); rintro e w1 ⟨rfl, hb⟩; have HB1 := Lib.hid (below_then HB0.out hb); have HA1 := Lib.hid (blk_below HA.out hb); have HF1 := Lib.hid (HF.out.below hb); clear hb)))
  go_loopw [5, 6, 7] (fun b m a wr => ∃ k : Nat, k ≤ W ∧ b = .int .i64 ((worstP f k).1 : Int) ∧ m = .int .i64 ((worstP f k).2 : Int) ∧ a = .int .i64 (k : Int) ∧ Hid (Below w.heap.size w wr) ∧ Hid (FabAt wr cast A cap L) ∧ Hid (wr.heap[w.heap.size]? = some (.cells #[.int .i16 cast, .slice A L.length cap] 27 (0, 0)))) (fun _ _ a _ => W - (intOf a).toNat)
  case atStart => exact ⟨0, by omega, rfl, rfl, rfl, HB1, HF1, HA1⟩
  case round =>
    clear HB1 HF1 HA1
    obtain ⟨k, hk, rfl, rfl, rfl, HB, HF, HA⟩ := hrel
    have CLk := Lib.hid (CL.out k _ HF.out HA.out)
    by_cases hlt : k < W
    · have q : inB (k : Int) 0 ((W : Int) - 1) = true := by simp [inB]; omega
      rw [q] at CLk
      have hk60 : (k : Int) < 60 := by omega
      have hW : worstP f (k + 1) = if (worstP f k).2 < f k then (k, f k) else worstP f k := rfl
      generalize worstP f k = p at *
      obtain ⟨pb, pm⟩ := p
      clear q
      by_cases hc : pm < f k
      · have hW' : Hid (worstP f (k + 1) = (k, f k)) := hW.trans (if_pos hc)
        have d1 : decide ((pm : Int) < (f k : Int)) = true := by simp; omega
        go_wp2_with (first
          | (go_at_call 30; ((refine CLk.out.mono ?_); rintro e w2 ⟨rfl, hb⟩; have HB2 := Lib.hid (below_then HB.out hb); have HA2 := Lib.hid (blk_below HA.out hb); have HF2 := Lib.hid (HF.out.below hb); clear hb))
          | (go_at_call 31; ((refine (CD.out k _ HF2.out HA2.out hlt).mono ?_); rintro e w3 ⟨v, rfl, hO, hb⟩; obtain ⟨A1, c1, rfl, -⟩ := own_form hO; have HB3 := Lib.hid (below_then HB2.out hb); have HA3 := Lib.hid (blk_below HA2.out hb); have HF3 := Lib.hid (HF2.out.below hb); clear hb hO)))
        go_roundw
        case rel => exact ⟨k + 1, by omega, by rw [hW'.out], by rw [hW'.out], by go_num, HB3, HF3, HA3⟩
        case measure => simp [intOf]; omega
      · have hW' : Hid (worstP f (k + 1) = (pb, pm)) := hW.trans (if_neg hc)
        have d1 : decide ((pm : Int) < (f k : Int)) = false := by simp; omega
        go_wp2_with (first
          | (go_at_call 30; ((refine CLk.out.mono ?_); rintro e w2 ⟨rfl, hb⟩; have HB2 := Lib.hid (below_then HB.out hb); have HA2 := Lib.hid (blk_below HA.out hb); have HF2 := Lib.hid (HF.out.below hb); clear hb))
          | (go_at_call 31; ((refine (CD.out k _ HF2.out HA2.out hlt).mono ?_); rintro e w3 ⟨v, rfl, hO, hb⟩; obtain ⟨A1, c1, rfl, -⟩ := own_form hO; have HB3 := Lib.hid (below_then HB2.out hb); have HA3 := Lib.hid (blk_below HA2.out hb); have HF3 := Lib.hid (HF2.out.below hb); clear hb hO)))
        go_roundw
        case rel => exact ⟨k + 1, by omega, by rw [hW'.out], by rw [hW'.out], by go_num, HB3, HF3, HA3⟩
        case measure => simp [intOf]; omega
    · obtain rfl : k = W := by omega
      have q : inB (k : Int) 0 ((k : Int) - 1) = false := by simp [inB]; omega
      rw [q] at CLk
      clear q
      by_cases h0 : k = 0
      · subst h0
        go_wp2_with (first
          | (go_at_call 30; ((refine CLk.out.mono ?_); rintro e w2 ⟨rfl, hb⟩; have HB2 := Lib.hid (below_then HB.out hb); clear hb)))
        exact bodyPost_ret (v := .tuple #[.int .i64 0, .int .i64 0, .int .i64 6]) (by simp [results, Try.results8, go_sem]) rfl ⟨by have := HC.out; simp at this; rw [this]; rfl, HB2.out⟩
      · have hp := HP.out 0 (by omega)
        have hl := (HL.out 0 (by omega)).1
        have HT : Hid (c = 0) := HC.out.trans (if_neg h0)
        have d0 : ¬ ((worstP f k).2 = 0) := by omega
        clear hp hl h0
        generalize hp : worstP f k = p at *
        have HPP := Lib.hid hp
        clear hp
        obtain ⟨pb, pm⟩ := p
        go_wp2_with (first
          | (go_at_call 30; ((refine CLk.out.mono ?_); rintro e w2 ⟨rfl, hb⟩; have HB2 := Lib.hid (below_then HB.out hb); clear hb)))
        exact bodyPost_ret (v := .tuple #[.int .i64 (pb : Int), .int .i64 (pm : Int), .int .i64 0]) (by simp [results, Try.results8, go_sem]) rfl ⟨by rw [HT.out, HPP.out], HB2.out⟩
set_option maxHeartbeats 1000000 in
theorem c_sLadderOf (a : Nat) (cast : Int) (A : Option Addr) (cap : Nat) (L : List (List UInt8)) (w : World) (hF : FabAt w cast A cap L) (hok : fabOk cast L = true) (ha : a < widN cast L L.length) :
    Calls Try.prog 10 #[.agg #[.int .i16 cast, .slice A L.length cap], .int .i64 (a : Int)] w fun e w' => ∃ v, e = .returned (.tuple #[v, .int .i64 0]) ∧ w'.ownsRow w.heap.size 39 2 v (ladU L a (L.length + 1)).length (lpRow (ladU L a (L.length + 1))) ∧ Below w.heap.size w w' := by
  have hb0 : Below w.heap.size w (w.alloc (.cells #[.int .i16 cast, .slice A L.length cap] 27 (0, 0))) := below_alloc (Below.refl _ _) _
  have hA := heap_alloc_new w (.cells #[.int .i16 cast, .slice A L.length cap] 27 (0, 0))
  have CO := Lib.hid (c_l05Ok w.heap.size cast A cap L _ (hF.below hb0) hA)
  have HB0 := Lib.hid hb0
  have HA := Lib.hid hA
  have HF := Lib.hid (hF.below hb0)
  have hV := fabV_of hok
  have CL := Lib.hid (fun w' h h2 => c_l05Last w.heap.size cast (a : Int) A cap L w' h hV h2)
  have CD := Lib.hid (fun w' h hg => c_l05Ladder w.heap.size a (L.length + 1) cast (-1) A cap L w' h hV hg ha (Nat.le_refl _) (by omega))
  rw [show inB (a : Int) 0 ((widN cast L L.length : Int) - 1) = true by simp [inB]; omega] at CL
  rw [hok] at CO
  clear hb0 hA hF hok hV ha
  go_enter Try.func10, Try.ntmps10
  go_wp2_with (first
    | (go_at_call 24; ((with_reducible refine CO.out.mono ?_); rintro e w1 ⟨rfl, hb⟩; have HB1 := Lib.hid (below_then HB0.out hb); have HA1 := Lib.hid (blk_below HA.out hb); have HF1 := Lib.hid (HF.out.below hb); clear hb))
    | (go_at_call 30; ((refine (CL.out _ HF1.out HA1.out).mono ?_); rintro e w2 ⟨rfl, hb⟩; have HB1 := Lib.hid (below_then HB1.out hb); have HA2 := Lib.hid (blk_below HA1.out hb); have HF2 := Lib.hid (HF1.out.below hb); clear hb))
    | (go_at_call 31; ((refine (CD.out _ HF2.out HA2.out).mono ?_); rintro e w4 ⟨v, rfl, hO, hb⟩; have HO4 := Lib.hid (own_mono hO HB1.out.size); have HB1 := Lib.hid (below_then HB1.out hb); clear hb hO)))
  exact bodyPost_ret (v := .tuple #[v, .int .i64 0]) (by simp [results, Try.results10, go_sem]) rfl ⟨v, rfl, HO4.out, HB1.out⟩
theorem lpRow_at {Y : List (Int × Int)} {k : Nat} (h : k < Y.length) : (lpRow Y)[k * 2]? = some (.int .i16 Y[k].1) ∧ (lpRow Y)[k * 2 + 1]? = some (.int .i16 Y[k].2) := lpRow_get h
set_option maxHeartbeats 800000 in
theorem c_SameLoops (v u : Value) (base base' : Nat) (Y : List (Int × Int)) (w : World) (h : w.ownsRow base 39 2 v Y.length (lpRow Y)) (h' : w.ownsRow base' 39 2 u Y.length (lpRow Y)) (hn : Y.length ≤ 1048576) :
    Calls Try.prog 11 #[v, u] w fun e w' => e = .returned (.bool true) ∧ Below w.heap.size w w' := by
  obtain ⟨A, c, rfl, hA⟩ := own_form h
  obtain ⟨B, c', rfl, hB⟩ := own_form h'
  have H := Lib.hid h
  have H' := Lib.hid h'
  clear h h'
  have d0 : ((Y.length : Int) != (Y.length : Int)) = false := by simp
  go_enter Try.func11, Try.ntmps11
  go_wp2
  go_loopw [5] (fun i wr => ∃ k : Nat, k ≤ Y.length ∧ i = .int .i64 k ∧ Hid (Below w.heap.size w wr)) (fun i _ => Y.length - (intOf i).toNat)
  case atStart => exact ⟨0, by omega, rfl, Below.refl _ _⟩
  case round =>
    obtain ⟨k, hk, rfl, hb⟩ := hrel
    by_cases hlt : k < Y.length
    · have d1 : decide ((k : Int) < (Y.length : Int)) = true := by simp; omega
      obtain ⟨g, rfl, -⟩ := hA (by omega)
      obtain ⟨g', rfl, -⟩ := hB (by omega)
      have c0 := (own_get (own_below H.out hb.out) (lpRow_get hlt).1).1
      have c1 := (own_get (own_below H.out hb.out) (lpRow_get hlt).2).1
      have c0' := (own_get (own_below H'.out hb.out) (lpRow_get hlt).1).1
      have c1' := (own_get (own_below H'.out hb.out) (lpRow_get hlt).2).1
      generalize Y[k].1 = y0 at *
      generalize Y[k].2 = y1 at *
      have k0 : (0 : Int) ≤ (k : Int) := by omega
      have k1 : (k : Int) < (Y.length : Int) := by omega
      go_wp2
      go_quiet (fail)
      go_wp2
      go_roundw
      case rel => exact ⟨k + 1, by omega, by go_num, below_drewN hb.out _⟩
      case measure => simp [intOf]; omega
    · obtain rfl : k = Y.length := by omega
      have d1 : decide ((Y.length : Int) < (Y.length : Int)) = false := by simp
      go_wp2
      go_ret
      exact ⟨rfl, hb.out⟩
theorem c_HasNumber (zs : List Int) (x : Int) (v : Value) (base n : Nat) (w : World) (h : w.ownsRow base 2 1 v n (nums .i64 zs)) (hn : n ≤ 1048576) :
    Calls Try.prog 14 #[v, .int .i64 x] w fun e w' => e = .returned (.bool (decide (x ∈ zs))) ∧ w = w' := by
  have C := Lib.hid (c_l00HasD zs x v base n w h hn)
  clear h
  go_enter Try.func14, Try.ntmps14
  go_wp2_with (go_at_call 41; ((with_reducible refine C.out.mono ?_); rintro e w1 ⟨rfl, rfl⟩))
  exact bodyPost_ret (v := .bool (decide (x ∈ zs))) (by simp [results, Try.results14, go_sem]) rfl ⟨rfl, rfl⟩
set_option maxHeartbeats 1000000 in
theorem c_HasLoop (P : List (Nat × Nat)) (r x : Nat) (v : Value) (base : Nat) (w : World) (h : w.ownsRow base 39 2 v P.length (lpRow (P.map ii))) (hn : P.length ≤ 1048576) :
    Calls Try.prog 15 #[v, .agg #[.int .i16 (r : Int), .int .i16 (x : Int)]] w fun e w' => e = .returned (.bool (decide ((r, x) ∈ P))) ∧ Below w.heap.size w w' := by
  obtain ⟨A, c, rfl, hA⟩ := own_form h
  have hb0 : Below w.heap.size w (w.alloc (.cells #[.int .i16 (r : Int), .int .i16 (x : Int)] 39 (0, 0))) := below_alloc (Below.refl _ _) _
  have HX := Lib.hid (heap_alloc_new w (.cells #[.int .i16 (r : Int), .int .i16 (x : Int)] 39 (0, 0)))
  have H := Lib.hid (own_below h hb0)
  have HB0 := Lib.hid hb0
  clear h hb0
  go_enter Try.func15, Try.ntmps15
  go_wp2
  generalize w.alloc (.cells #[.int .i16 (r : Int), .int .i16 (x : Int)] 39) = wa at *
  go_loopw [5] (fun i wr => ∃ k q : Nat, k ≤ P.length ∧ i = .int .i64 (k : Int) ∧ Hid (¬ (r, x) ∈ P.take k) ∧ wr = wa.drewN q) (fun i _ => P.length - (intOf i).toNat)
  case atStart => exact ⟨0, 0, by omega, rfl, by simp [Hid], rfl⟩
  case round =>
    obtain ⟨k, q, hk, rfl, hI, rfl⟩ := hrel
    by_cases hlt : k < P.length
    · have d1 : decide ((k : Int) < (P.length : Int)) = true := by simp; omega
      obtain ⟨g, rfl, -⟩ := hA (by omega)
      have hlm : k < (P.map ii).length := by rw [List.length_map]; exact hlt
      have c0 := (own_get H.out (lpRow_get hlm).1).1
      have c1 := (own_get H.out (lpRow_get hlm).2).1
      have x0 := blk_cell HX.out 0
      have x1 := blk_cell HX.out 1
      rw [List.getElem_map] at c0 c1
      have HT : Hid (P.take (k + 1) = P.take k ++ [P[k]]) := by rw [Hid, List.take_add_one, List.getElem?_eq_getElem hlt]; rfl
      have HM := Lib.hid (List.getElem_mem hlt)
      have k0 : (0 : Int) ≤ (k : Int) := by omega
      have k1 : (k : Int) < (P.length : Int) := by omega
      generalize P[k] = y at *
      obtain ⟨y0, y1⟩ := y
      have hi0 : (ii (y0, y1)).1 = (y0 : Int) := rfl
      have hi1 : (ii (y0, y1)).2 = (y1 : Int) := rfl
      rw [hi0] at c0
      rw [hi1] at c1
      clear hi0 hi1 hlm
      by_cases e0 : y0 = r
      · subst e0
        by_cases e1 : y1 = x
        · subst e1
          have HC : Hid (decide ((y0, y1) ∈ P) = true) := decide_eq_true HM.out
          go_wp2
          go_quiet (fail)
          go_wp2
          exact bodyPost_ret (v := .bool true) (by simp [results, Try.results15, go_sem]) rfl ⟨by rw [HC.out], below_drewN (below_drewN HB0.out _) _⟩
        · have n1 : ((y1 : Int) == (x : Int)) = false := by simp; omega
          have HN : Hid (¬ (y0, x) ∈ P.take (k + 1)) := by
            rw [Hid, HT.out, List.mem_append]
            rintro (h | h)
            · exact hI.out h
            · have := List.mem_singleton.1 h
              simp only [Prod.mk.injEq] at this
              exact e1 this.2.symm
          clear e1
          go_wp2
          go_quiet (fail)
          go_wp2
          go_roundw
          case rel => exact ⟨k + 1, _, by omega, by go_num, HN, rfl⟩
          case measure => simp [intOf]; omega
      · have n0 : ((y0 : Int) == (r : Int)) = false := by simp; omega
        have HN : Hid (¬ (r, x) ∈ P.take (k + 1)) := by
          rw [Hid, HT.out, List.mem_append]
          rintro (h | h)
          · exact hI.out h
          · have := List.mem_singleton.1 h
            simp only [Prod.mk.injEq] at this
            exact e0 this.1.symm
        clear e0
        go_wp2
        go_quiet (fail)
        go_wp2
        go_roundw
        case rel => exact ⟨k + 1, _, by omega, by go_num, HN, rfl⟩
        case measure => simp [intOf]; omega
    · obtain rfl : k = P.length := by omega
      have d1 : decide ((P.length : Int) < (P.length : Int)) = false := by simp
      have HC : Hid (decide ((r, x) ∈ P) = false) := by
        have := hI.out
        rw [List.take_length] at this
        exact decide_eq_false this
      go_wp2
      exact bodyPost_ret (v := .bool false) (by simp [results, Try.results15, go_sem]) rfl ⟨by rw [HC.out], below_drewN HB0.out _⟩
end Go.Proofs.Ytepdgbgolopejaa
