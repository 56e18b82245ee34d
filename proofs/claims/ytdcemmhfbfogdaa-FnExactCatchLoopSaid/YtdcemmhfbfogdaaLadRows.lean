/- What the law on CatchLoop calls: loops and fabrics that mark. -/
import Derived.Test.YtdcemmhfbfogdaaLadMark
import Derived.StillTailTactics
namespace Go.Proofs.Ytdcemmhfbfogdaa
open Go.RowKit
set_option linter.unusedVariables false
set_option linter.unusedSimpArgs false
set_option maxRecDepth 100000

def fLoop (k0 : Nat) (i : Nat) : Value := if i % 2 = 0 then .int .i16 (IntKind.i16.wrap ((k0 : Int) + (i : Int))) else .int .i16 (IntKind.i16.wrap ((k0 : Int) + (i : Int)))
theorem fLoop_0 (k0 k : Nat) : fLoop k0 (k * 2) = .int .i16 (IntKind.i16.wrap ((k0 : Int) + (k : Int) * 2)) := by
  rw [fLoop, if_pos (show (k * 2) % 2 = 0 by omega)]; simp [Int.add_assoc]
theorem fLoop_1 (k0 k : Nat) : fLoop k0 (k * 2 + 1) = .int .i16 (IntKind.i16.wrap ((k0 : Int) + (k : Int) * 2 + 1)) := by
  rw [fLoop, if_neg (show ¬ (k * 2 + 1) % 2 = 0 by omega)]; simp [Int.add_assoc]
set_option maxHeartbeats 1000000 in
theorem c_markLoopS (v : Value) (base n k0 : Nat) (q : Int) (xs : List Value) (w : World) (h : w.ownsRow base 61 2 v n xs) (hn : n ≤ 1048576) (hk0 : k0 ≤ 100000000) (hq : q = (k0 : Int)) :
    Calls Try.prog 14 #[v, .int .i64 q] w fun e w' => e = .returned (.int .i64 (q + ((n * 2 : Nat) : Int))) ∧ w'.ownsRow base 61 2 v n ((List.range (n * 2)).map (fLoop k0)) ∧ TouV v w w' := by
  subst hq
  obtain ⟨A, c, rfl, hA⟩ := own_form h
  have HX := Lib.hid h
  have hx := h.1
  clear h
  go_enter Try.func14, Try.ntmps14
  go_wp2
  go_loopw [5, 1] (fun i q wr => ∃ k : Nat, k ≤ n ∧ i = .int .i64 k ∧ q = .int .i64 ((k0 : Int) + ((k * 2 : Nat) : Int)) ∧ Hid (wr.ownsRow base 61 2 (.slice A n c) n (marked (fLoop k0) (k * 2) xs)) ∧ Hid (TouV (.slice A n c) w wr)) (fun i _ _ => n - (intOf i).toNat)
  case atStart => exact ⟨0, by omega, rfl, by simp, by rw [Hid, Nat.zero_mul, marked_zero]; exact HX.out, TouV.refl _ _⟩
  case round =>
    obtain ⟨k, hk, rfl, rfl, hI, hB⟩ := hrel
    by_cases hlt : k < n
    · have d1 : decide ((k : Int) < (n : Int)) = true := by simp; omega
      obtain ⟨g, rfl, hg⟩ := hA (by omega)
      have k1 : (0 : Int) ≤ (k : Int) := by omega
      have k2 : (k : Int) < (n : Int) := by omega
      have hL : (marked (fLoop k0) (k * 2) xs).length = n * 2 := by rw [marked_len _ (by omega)]; exact hx
      obtain ⟨x0, f0⟩ := own_get hI.out (List.getElem?_eq_getElem (show k * 2 < (marked (fLoop k0) (k * 2) xs).length by omega))
      obtain ⟨x1, f1⟩ := own_get hI.out (List.getElem?_eq_getElem (show k * 2 + 1 < (marked (fLoop k0) (k * 2) xs).length by omega))
      generalize (marked (fLoop k0) (k * 2) xs)[k * 2]'(by omega) = u0 at *
      generalize (marked (fLoop k0) (k * 2) xs)[k * 2 + 1]'(by omega) = u1 at *
      go_wp2
      go_roundw
      case rel =>
        refine ⟨k + 1, by omega, by go_num, by congr 1; omega, ?_, TouV.setCell (TouV.setCell hB.out rfl _ _) rfl _ _⟩
        have := own_set (own_set hI.out (k * 2) (by omega) (fLoop k0 (k * 2))) (k * 2 + 1) (by omega) (fLoop k0 (k * 2 + 1))
        rw [marked_set (fLoop k0) (by omega), marked_set (fLoop k0) (by omega), fLoop_0, fLoop_1] at this
        rw [Hid, show (k + 1) * 2 = k * 2 + 1 + 1 by omega]
        exact this
      case measure => simp [intOf]; omega
    · obtain rfl : k = n := by omega
      have d1 : decide ((k : Int) < (k : Int)) = false := by simp
      have hO := hI.out
      rw [marked_all _ (by omega)] at hO
      have HO := Lib.hid hO
      clear hO hI
      go_wp2
      go_ret
      exact ⟨rfl, HO.out, hB.out⟩
theorem c_markLoopE (v : Value) (base n : Nat) (q : Int) (xs : List Value) (w : World) (h : w.ownsRow base 61 2 v n xs) (hn : n ≤ 1048576) (h0 : 0 ≤ q) (h1 : q ≤ 50000000) :
    Calls Try.prog 14 #[v, .int .i64 q] w fun e w' => ∃ r : Int, e = .returned (.int .i64 r) ∧ q ≤ r ∧ r ≤ q + 2 * (n : Int) ∧ (∃ ys, w'.ownsRow base 61 2 v n ys) ∧ TouV v w w' := by
  refine (c_markLoopS v base n q.toNat q xs w h hn (by omega) (by omega)).mono ?_
  rintro e w1 ⟨rfl, hO, ht⟩
  exact ⟨_, rfl, by omega, by push_cast; omega, ⟨_, hO⟩, ht⟩
set_option maxHeartbeats 1000000 in
theorem c_heldLoopS (v : Value) (base n k0 : Nat) (q : Int) (w : World) (h : w.ownsRow base 61 2 v n ((List.range (n * 2)).map (fLoop k0))) (hn : n ≤ 1048576) (hk0 : k0 ≤ 100000000) (hq : q = (k0 : Int)) :
    Calls Try.prog 15 #[v, .int .i64 q] w fun e w' => e = .returned (.int .i64 (q + ((n * 2 : Nat) : Int))) ∧ w = w' := by
  subst hq
  obtain ⟨A, c, rfl, hA⟩ := own_form h
  have HX := Lib.hid h
  clear h
  go_enter Try.func15, Try.ntmps15
  go_wp2
  go_loop [5, 1] (fun i q => ∃ k : Nat, k ≤ n ∧ i = .int .i64 k ∧ q = .int .i64 ((k0 : Int) + ((k * 2 : Nat) : Int))) (fun i _ => n - (intOf i).toNat)
  case atStart => exact ⟨0, by omega, rfl, by simp⟩
  case round =>
    obtain ⟨k, hk, rfl, rfl⟩ := hrel
    by_cases hlt : k < n
    · have d1 : decide ((k : Int) < (n : Int)) = true := by simp; omega
      obtain ⟨g, rfl, hg⟩ := hA (by omega)
      have k1 : (0 : Int) ≤ (k : Int) := by omega
      have k2 : (k : Int) < (n : Int) := by omega
      obtain ⟨x0, f0⟩ := own_get HX.out (marked_get (fLoop k0) (show k * 2 < n * 2 by omega))
      rw [fLoop_0] at x0
      obtain ⟨x1, f1⟩ := own_get HX.out (marked_get (fLoop k0) (show k * 2 + 1 < n * 2 by omega))
      rw [fLoop_1] at x1
      go_wp2
      go_round
      case rel => exact ⟨k + 1, by omega, by go_num, by congr 1; omega⟩
      case measure => simp [intOf]; omega
    · obtain rfl : k = n := by omega
      have d1 : decide ((k : Int) < (k : Int)) = false := by simp
      go_wp2
      go_ret
      exact ⟨rfl, rfl⟩
theorem c_eqLoop (a b : Int) (w : World) :
    Calls Try.prog 34 #[.agg #[.int .i16 a, .int .i16 b], .agg #[.int .i16 a, .int .i16 b]] w fun e w' => e = .returned (.bool true) ∧ Below w.heap.size w w' := by
  go_enter Try.func34, Try.ntmps34
  go_wp2
  go_ret
  exact ⟨rfl, by (repeat (first | with_reducible exact Below.refl _ _ | with_reducible refine below_alloc ?_ _ | with_reducible refine below_drew ?_ | with_reducible refine below_drewN ?_ _ | with_reducible refine below_then ?_ (by assumption)))⟩
set_option maxHeartbeats 800000 in
theorem c_eqLoopS (v u : Value) (base base' : Nat) (Y : List (Int × Int)) (w : World) (h : w.ownsRow base 61 2 v Y.length (lpRow Y)) (h' : w.ownsRow base' 61 2 u Y.length (lpRow Y)) (hn : Y.length ≤ 1048576) :
    Calls Try.prog 12 #[v, u] w fun e w' => e = .returned (.bool true) ∧ Below w.heap.size w w' := by
  obtain ⟨A, c, rfl, hA⟩ := own_form h
  obtain ⟨B, c', rfl, hB⟩ := own_form h'
  have H := Lib.hid h
  have H' := Lib.hid h'
  clear h h'
  go_enter Try.func12, Try.ntmps12
  go_wp2
  go_loopw [5] (fun i wr => ∃ k : Nat, k ≤ Y.length ∧ i = .int .i64 k ∧ Hid (Below w.heap.size w wr)) (fun i _ => Y.length - (intOf i).toNat)
  case atStart => exact ⟨0, by omega, rfl, Below.refl _ _⟩
  case round =>
    obtain ⟨k, hk, rfl, hb⟩ := hrel
    by_cases hlt : k < Y.length
    · have d1 : decide ((k : Int) < (Y.length : Int)) = true := by simp; omega
      obtain ⟨g, rfl, -⟩ := hA (by omega)
      obtain ⟨g', rfl, -⟩ := hB (by omega)
      have c0 := (own_get (own_below H.out hb.out) (lpRow_get hlt).1).1
      have c1 := (own_get (own_below H.out hb.out) (lpRow_get hlt).2).1
      have c0' := (own_get (own_below H'.out hb.out) (lpRow_get hlt).1).1
      have c1' := (own_get (own_below H'.out hb.out) (lpRow_get hlt).2).1
      generalize Y[k].1 = y0 at *
      generalize Y[k].2 = y1 at *
      have k0 : (0 : Int) ≤ (k : Int) := by omega
      have k1 : (k : Int) < (Y.length : Int) := by omega
      go_wp2
      go_still_tail 8, (by kernel_rfl)
      change wpList _ _ _ _ _ wr.drew
      have HBd : Hid (Below w.heap.size w wr.drew) := below_drew hb.out
      clear c0 c1 c0' c1'
      generalize wr.drew = wd at *
      go_wp2_with (go_at_call 34; ((with_reducible refine (c_eqLoop _ _ _).mono ?_); rintro e w1 ⟨rfl, hb1⟩))
      go_roundw
      case rel => exact ⟨k + 1, by omega, by go_num, below_then HBd.out hb1⟩
      case measure => simp [intOf]; omega
    · obtain rfl : k = Y.length := by omega
      have d1 : decide ((Y.length : Int) < (Y.length : Int)) = false := by simp
      go_wp2
      go_ret
      exact ⟨rfl, hb.out⟩
theorem c_markLoop1 (v : Value) (base n : Nat) (xs : List Value) (w : World) (h : w.ownsRow base 61 2 v n xs) (hn : n ≤ 1048576) :
    Calls Try.prog 14 #[v, .int .i64 1] w fun e w' => e = .returned (.int .i64 (1 + ((n * 2 : Nat) : Int))) ∧ w'.ownsRow base 61 2 v n ((List.range (n * 2)).map (fLoop 1)) ∧ TouV v w w' :=
  c_markLoopS v base n 1 1 xs w h hn (by decide) rfl
theorem c_heldLoop1 (v : Value) (base n : Nat) (w : World) (h : w.ownsRow base 61 2 v n ((List.range (n * 2)).map (fLoop 1))) (hn : n ≤ 1048576) :
    Calls Try.prog 15 #[v, .int .i64 1] w fun e w' => e = .returned (.int .i64 (1 + ((n * 2 : Nat) : Int))) ∧ w = w' :=
  c_heldLoopS v base n 1 1 w h hn (by decide) rfl
set_option maxHeartbeats 1000000 in
theorem c_toFabricO (cast : Int) (A : Option Addr) (cap : Nat) (L : List (List UInt8)) (w : World) (hF : FabAt w cast A cap L) :
    Calls Try.prog 7 #[.agg #[.int .i16 cast, .slice A L.length cap]] w fun e w' => ∃ b, e = .returned (.agg #[.int .i16 cast, .slice (some ⟨b, 0, none⟩) L.length L.length]) ∧ w'.ownsRow w.heap.size 9 1 (.slice (some ⟨b, 0, none⟩) L.length L.length) L.length (strs L) ∧ Below w.heap.size w w' := by
  have hnum := hF.num
  have HF := Lib.hid hF
  clear hF
  have HI : Hid ((Try.prog.info? 29).map (·.size) = some 2) := by show (Try.prog.info? 29).map (·.size) = some 2; kernel_rfl
  let W1 := w.alloc (.cells #[.int .i16 cast, .slice A L.length cap] 25 (0, 0))
  let W2 := W1.alloc (.cells #[.int .i16 0, .slice none 0 0] 29 (0, 0))
  let W3 := W2.alloc (.cells #[.int .i16 cast, .slice none 0 0] 29 (0, 0))
  have z1 : W1.heap.size = w.heap.size + 1 := World.size_alloc ..
  have z2 : W2.heap.size = w.heap.size + 1 + 1 := (World.size_alloc ..).trans (by rw [z1])
  have z3 : W3.heap.size = w.heap.size + 1 + 1 + 1 := (World.size_alloc ..).trans (by rw [z2])
  have HR3 : Hid (W3.heap[w.heap.size + 1]? = some (.cells #[.int .i16 0, .slice none 0 0] 29 (0, 0))) := by
    have := heap_alloc_new W1 (.cells #[.int .i16 0, .slice none 0 0] 29 (0, 0))
    rw [z1] at this
    exact blk_alloc this _
  have HT3 : Hid (W3.heap[w.heap.size + 1 + 1]? = some (.cells #[.int .i16 cast, .slice none 0 0] 29 (0, 0))) := by
    have := heap_alloc_new W2 (.cells #[.int .i16 cast, .slice none 0 0] 29 (0, 0))
    rw [z2] at this
    exact this
  have HB3 : Hid (Below w.heap.size w W3) := below_alloc (below_alloc (below_alloc (Below.refl _ _) _) _) _
  have CS := Lib.hid (c_toStringS A cap L W3 (HF.out.row.below HB3.out) hnum)
  have Z3 := Lib.hid z3
  clear z1 z2 z3
  go_enter Try.func7, Try.ntmps7
  go_wp2_with (first
    | (go_at_call 19; ((with_reducible refine CS.out.mono ?_); rintro e w1 ⟨rfl, hO, hb⟩; have hT := Lib.hid (blk_below HT3.out hb); have hR := Lib.hid (blk_below HR3.out hb); have x0 : w1.cell? ⟨w.heap.size + 1 + 1, 0, none⟩ = some (.int .i16 cast) := (blk_cell hT.out 0); have x1 : w1.cell? ⟨w.heap.size + 1 + 1, 1, none⟩ = some (.slice none 0 0) := (blk_cell hT.out 1); have f1 : w1.frozen? ⟨w.heap.size + 1 + 1, 1, none⟩ = false := (blk_frozen hT.out 1); have HO := Lib.hid hO; have HB1 := Lib.hid (below_then HB3.out hb); have hz := hb.size; clear hb hO))
    | (refine ev_store_row rfl 29 (.tmp 2) (.tmp 11) rfl (w.heap.size + 1) (fabCells cast (some ⟨W3.heap.size, 0, none⟩) L.length L.length) rfl rfl 29 #[.int .i16 0, .slice none 0 0] ?_ HI.out rfl (fab_one _ _ _ _) ?_; (exact blk_far hR.out (by omega) _ _); intro w6 hblk ht; have hR3 := Lib.hid hblk; clear hblk))
  have hz3 := Z3.out
  have HO2 := own_tou (own_tou HO.out (Tou.setCell w1 (w.heap.size + 1 + 1) 1 (.slice (some ⟨W3.heap.size, 0, none⟩) L.length L.length)) (by omega)) ht (by omega)
  exact bodyPost_ret (v := .agg (fabCells cast (some ⟨W3.heap.size, 0, none⟩) L.length L.length)) (results_cell_row rfl _ _ (w.heap.size + 1) 29 (fabCells cast (some ⟨W3.heap.size, 0, none⟩) L.length L.length) (0, 0) _ rfl hR3.out Try.underlying29 rfl HI.out) rfl
    ⟨W3.heap.size, rfl, own_mono HO2 (by omega), (HB1.out.setCell (by simp; omega) _).trans (ht.below (by omega))⟩
theorem grown_trans {w w1 w2 : World} {r : Option Nat} (h : w.grownBy w1 r) (h' : w1.grownBy w2 r) : w.grownBy w2 r :=
  ⟨h'.os.trans h.os, h'.tape.trans h.tape, h'.output.trans h.output, Nat.le_trans h.size h'.size, fun k hk hr => (h'.block k (Nat.lt_of_lt_of_le hk h.size) hr).trans (h.block k hk hr)⟩
theorem grown_alloc (w : World) (o : Obj) (r : Option Nat) : w.grownBy (w.alloc o) r := grown_below (grown_refl w r) (below_alloc (Below.refl _ _) _)
theorem c_markFabric (C : Int) (A : Option Addr) (cap base k0 : Nat) (L : List (List UInt8)) (w : World) (h : w.ownsRow base 9 1 (.slice A L.length cap) L.length (strs L)) (hn : L.length ≤ 1048576) (h1 : 1 ≤ k0) (h2 : k0 ≤ 1048576) :
    Calls Try.prog 13 #[.agg #[.int .i16 C, .slice A L.length cap], .int .i64 (k0 : Int)] w fun e w' => e = .returned (.int .i64 ((k0 : Int) + (L.length : Int))) ∧ w'.ownsRow base 9 1 (.slice A L.length cap) L.length (strs (mkA k0 L.length)) ∧ w.grownBy w' (Value.slice A L.length cap).ownBlock := by
  have CM := Lib.hid (c_markStringS (.slice A L.length cap) base k0 L (w.alloc (.cells #[.int .i16 C, .slice A L.length cap] 29 (0, 0))) (h.alloc _) hn h1 h2)
  clear h
  go_enter Try.func13, Try.ntmps13
  go_wp2_with (go_at_call 35; ((with_reducible refine CM.out.mono ?_); rintro e w1 ⟨rfl, hO, hG⟩))
  exact bodyPost_ret (v := .int .i64 ((k0 : Int) + (L.length : Int))) (by simp [results, Try.results13, go_sem]) rfl ⟨rfl, hO, grown_trans (grown_alloc _ _ _) hG⟩
end Go.Proofs.Ytdcemmhfbfogdaa
