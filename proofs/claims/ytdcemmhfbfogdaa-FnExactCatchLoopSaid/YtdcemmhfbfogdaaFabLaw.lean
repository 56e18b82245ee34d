/- Fabrics as arguments of a law: their size, their copy, their comparing. -/
import Derived.Test.YtdcemmhfbfogdaaFabImpl
import Derived.Test.YtdcemmhfbfogdaaInt64S
namespace Go.Proofs.Ytdcemmhfbfogdaa
open Go.RowKit
set_option linter.unusedVariables false
set_option linter.unusedSimpArgs false
set_option maxRecDepth 100000

def lensN (L : List (List UInt8)) : Nat := (L.map (·.length)).sum
theorem lensN_take {L : List (List UInt8)} {k : Nat} (h : k < L.length) : lensN (L.take (k + 1)) = lensN (L.take k) + (L.getD k []).length := by
  rw [List.take_add_one, List.getElem?_eq_getElem h]
  show ((L.take k ++ [L[k]]).map (·.length)).sum = _
  rw [List.map_append, List.sum_append]
  simp [lensN, List.getD_eq_getElem?_getD, h]
theorem lensN_le (L : List (List UInt8)) (k : Nat) : lensN (L.take k) ≤ lensN L := by
  have : lensN L = lensN (L.take k) + lensN (L.drop k) := by
    unfold lensN
    rw [← List.sum_append, ← List.map_append, List.take_append_drop]
  omega
theorem lensN_mem {L : List (List UInt8)} {l : List UInt8} (h : l ∈ L) : l.length ≤ lensN L := by
  obtain ⟨k, hk, rfl⟩ := List.getElem_of_mem h
  have h1 := lensN_take hk
  have h2 := lensN_le L (k + 1)
  simp [List.getD_eq_getElem?_getD, hk] at h1
  omega
/-- What is left of the budget; -1 if it does not do. -/
def szF (n m : Nat) : Int := if n + m ≤ 1048576 then 1048576 - (n : Int) - (m : Int) else -1
theorem szF_yes {n m : Nat} (h : n + m ≤ 1048576) : szF n m = 1048576 - (n : Int) - (m : Int) := if_pos h
theorem szF_no {n m : Nat} (h : ¬ n + m ≤ 1048576) : szF n m = -1 := if_neg h
set_option maxHeartbeats 1000000 in
theorem c_szStringS (A : Option Addr) (cap : Nat) (L : List (List UInt8)) (w : World) (hR : RdRow w A (strs L)) (hm : L.length ≤ maxLen) (hl : ∀ l ∈ L, l.length ≤ maxLen) :
    Calls Try.prog 16 #[.slice A L.length cap, .int .i64 1048576] w fun e w' => e = .returned (.int .i64 (szF L.length (lensN L))) ∧ w = w' := by
  have HR := Lib.hid hR
  have HL := Lib.hid hl
  have hm2 : L.length ≤ 9223372036854775807 := Nat.le_trans hm (by decide)
  clear hR hl
  by_cases h0 : 1048576 - (L.length : Int) < 0
  · have d0 : decide (1048576 - (L.length : Int) < 0) = true := by simp; omega
    have E : Hid ((szF L.length (lensN L)) = -1) := szF_no (by omega)
    go_enter Try.func16, Try.ntmps16
    go_wp2
    exact bodyPost_ret (v := .int .i64 (-1)) (by simp [results, Try.results16, go_sem]) rfl ⟨by rw [E.out], rfl⟩
  · have d0 : decide (1048576 - (L.length : Int) < 0) = false := by simp; omega
    go_enter Try.func16, Try.ntmps16
    go_wp2
    go_loop [1, 5] (fun x i => ∃ k : Nat, k ≤ L.length ∧ i = .int .i64 k ∧ ∃ y : Int, x = .int .i64 y ∧ y = 1048576 - (L.length : Int) - (lensN (L.take k) : Int) ∧ 0 ≤ y) (fun _ i => L.length - (intOf i).toNat)
    case atStart => exact ⟨0, by omega, rfl, _, rfl, by simp [lensN], by omega⟩
    case round =>
      obtain ⟨k, hk, rfl, y, rfl, hy, hy0⟩ := hrel
      by_cases hlt : k < L.length
      · have d1 : decide ((k : Int) < (L.length : Int)) = true := by simp; omega
        have k0 : (0 : Int) ≤ (k : Int) := by omega
        have k1 : (k : Int) < (L.length : Int) := by omega
        obtain ⟨ad, rfl, x0⟩ := HR.out k _ (strs_get hlt)
        have ht := lensN_take hlt
        have hle := lensN_le L (k + 1)
        have hll := HL.out (L.getD k []) (by rw [List.getD_eq_getElem?_getD, List.getElem?_eq_getElem hlt]; exact List.getElem_mem hlt)
        obtain ⟨l, hl⟩ : ∃ l, L.getD k [] = l := ⟨_, rfl⟩
        rw [hl] at x0 ht hll
        have hll : l.length ≤ 9223372036854775807 := Nat.le_trans hll (by decide)
        have hsz : (str l).size = l.length := str_size l
        clear hl
        have hyb : y ≤ 1048576 := by omega
        by_cases h1 : y - (l.length : Int) < 0
        · have d2 : decide (y - (l.length : Int) < 0) = true := by simp; omega
          have E : Hid ((szF L.length (lensN L)) = -1) := szF_no (by omega)
          clear ht hle hy
          go_wp2
          exact bodyPost_ret (v := .int .i64 (-1)) (by simp [results, Try.results16, go_sem]) rfl ⟨by rw [E.out], rfl⟩
        · have d2 : decide (y - (l.length : Int) < 0) = false := by simp; omega
          have HT := Lib.hid ht
          have HY := Lib.hid hy
          clear ht hle hy
          go_wp2
          go_round
          case rel => exact ⟨k + 1, by omega, by go_num, _, rfl, by rw [HY.out, HT.out]; push_cast; omega, by omega⟩
          case measure => simp [intOf]; omega
      · obtain rfl : k = L.length := by omega
        have d1 : decide ((L.length : Int) < (L.length : Int)) = false := by simp
        rw [List.take_length] at hy
        have E : Hid ((szF L.length (lensN L)) = y) := by rw [Hid, szF_yes (by omega), hy]
        clear hy
        go_wp2
        exact bodyPost_ret (v := .int .i64 y) (by simp [results, Try.results16, go_sem]) rfl ⟨by rw [E.out], rfl⟩
theorem marked_strs (L : List (List UInt8)) : (List.range L.length).map (fun i => Value.string (str (L.getD i []))) = strs L := by
  apply List.ext_getElem?
  intro j
  by_cases hj : j < L.length
  · rw [strs_get hj]; simp [hj]
  · simp [strs, hj]
set_option maxHeartbeats 800000 in
theorem c_toStringS (A : Option Addr) (c : Nat) (L : List (List UInt8)) (w : World) (h : RdRow w A (strs L)) (hn : L.length ≤ 1048576) :
    Calls Try.prog 19 #[.slice A L.length c] w fun e w' => e = .returned (.slice (some ⟨w.heap.size, 0, none⟩) L.length L.length) ∧ w'.ownsRow w.heap.size 9 1 (.slice (some ⟨w.heap.size, 0, none⟩) L.length L.length) L.length (strs L) ∧ Below w.heap.size w w' := by
  have H := Lib.hid h
  clear h
  obtain ⟨n, hl⟩ : ∃ n, L.length = n := ⟨_, rfl⟩
  have HL := Lib.hid hl
  have hmk : ∀ w : World, (Instr.makeSlice 23 (.int .i64 (n : Int)) (.int .i64 (n : Int))).run Try.prog w = .ok (.slice (some ⟨w.heap.size, 0, none⟩) n n) (w.alloc (.cells (madeCells #[.string (str [])] (n * 1)) 9)) := fun w => by
    have hinfo : (Try.prog.info? 9).map (fun i => (i.zero, i.size, i.bytes)) = some (some (.string (str [])), 1, 16) := by kernel_rfl
    obtain ⟨i, hi, hzz⟩ := Option.map_eq_some_iff.1 hinfo
    simp only [Prod.mk.injEq] at hzz
    obtain ⟨hz, hs, hb⟩ := hzz
    have := run_make (P := Try.prog) w 23 9 i _ Try.underlying23 hi hz .i64 .i64 (n : Int) (n : Int) (by omega) (Int.le_refl _) (by rw [hb]; omega) (by omega)
    rw [hs, Int.toNat_natCast] at this
    exact this
  have hms : (madeCells #[Value.string (str [])] (n * 1)).size = n * 1 := size_madeCells _ _
  have HMK : Hid (∃ xs, (w.alloc (.cells (madeCells #[Value.string (str [])] (n * 1)) 9 (0, 0))).ownsRow w.heap.size 9 1 (.slice (some ⟨w.heap.size, 0, none⟩) n n) n xs) :=
    ⟨_, by rw [List.length_take, Array.length_toList, hms]; simp, .inr ⟨_, n, _, rfl, Nat.le_refl _, heap_alloc_new w _, Nat.le_refl _, by simp only [maxLen]; omega, hms, rfl⟩⟩
  generalize hM : madeCells #[Value.string (str [])] (n * 1) = M at *
  obtain ⟨xs, hxs⟩ := HMK.out
  have HX := Lib.hid hxs
  have hx := hxs.1
  rw [hl] at hn ⊢
  clear hxs HMK hl
  go_enter Try.func19, Try.ntmps19
  go_wp2
  go_loopw [4] (fun i wr => ∃ k : Nat, k ≤ n ∧ i = .int .i64 k ∧ Hid (wr.ownsRow w.heap.size 9 1 (.slice (some ⟨w.heap.size, 0, none⟩) n n) n (marked (fun i => Value.string (str (L.getD i []))) k xs)) ∧ Hid (Below w.heap.size w wr)) (fun i _ => n - (intOf i).toNat)
  case atStart => exact ⟨0, by omega, rfl, by rw [Hid, marked_zero]; exact HX.out, by show Below w.heap.size w _; (repeat (first | with_reducible exact Below.refl _ _ | with_reducible refine below_alloc ?_ _ | with_reducible refine below_drew ?_ | with_reducible refine below_drewN ?_ _ | with_reducible refine below_then ?_ (by assumption)))⟩
  case round =>
    obtain ⟨k, hk, rfl, hI, hB⟩ := hrel
    by_cases hlt : k < n
    · have d1 : decide ((k : Int) < (n : Int)) = true := by simp; omega
      obtain ⟨ad, rfl, c0⟩ := (H.out.below hB.out) k _ (strs_get (by rw [HL.out]; exact hlt))
      have k0 : (0 : Int) ≤ (k : Int) := by omega
      have k1 : (k : Int) < (n : Int) := by omega
      have hkl : k < (marked (fun i => Value.string (str (L.getD i []))) k xs).length := by rw [marked_len _ (by omega)]; omega
      obtain ⟨x0, f0⟩ := own_get hI.out (List.getElem?_eq_getElem hkl)
      generalize (marked (fun i => Value.string (str (L.getD i []))) k xs)[k]'hkl = u at *
      have HS := Lib.hid (own_set hI.out k (by omega) (.string (str (L.getD k []))))
      obtain ⟨l, hl⟩ : ∃ l, L.getD k [] = l := ⟨_, rfl⟩
      rw [hl] at c0
      have HL2 := Lib.hid hl
      clear hl
      go_wp2
      go_roundw
      case rel =>
        refine ⟨k + 1, by omega, by go_num, ?_, hB.out.setCell (by simp) _⟩
        have := HS.out
        rw [marked_set (fun i => Value.string (str (L.getD i []))) (by omega), HL2.out] at this
        exact this
      case measure => simp [intOf]; omega
    · obtain rfl : k = n := by omega
      have d1 : decide ((k : Int) < (k : Int)) = false := by simp
      have hO := hI.out
      rw [marked_all _ (by omega)] at hO
      have HO : Hid (wr.ownsRow w.heap.size 9 1 (.slice (some ⟨w.heap.size, 0, none⟩) k k) k (strs L)) := by
        have := marked_strs L
        rw [HL.out] at this
        rw [this] at hO
        exact hO
      clear hO hI
      go_wp2
      exact bodyPost_ret (v := .slice (some ⟨w.heap.size, 0, none⟩) k k) (by simp [results, Try.results19, go_sem]) rfl ⟨rfl, HO.out, hB.out⟩
set_option maxHeartbeats 800000 in
theorem c_eqStringS (A B : Option Addr) (c c' : Nat) (L : List (List UInt8)) (w : World) (h : RdRow w A (strs L)) (h' : RdRow w B (strs L)) (hn : L.length ≤ 1048576) :
    Calls Try.prog 24 #[.slice A L.length c, .slice B L.length c'] w fun e w' => e = .returned (.bool true) ∧ Below w.heap.size w w' := by
  have H := Lib.hid h
  have H' := Lib.hid h'
  clear h h'
  obtain ⟨n, hl⟩ : ∃ n, L.length = n := ⟨_, rfl⟩
  have HL := Lib.hid hl
  rw [hl] at hn ⊢
  clear hl
  go_enter Try.func24, Try.ntmps24
  go_wp2
  go_loopw [5] (fun i wr => ∃ k : Nat, k ≤ n ∧ i = .int .i64 k ∧ Hid (Below w.heap.size w wr)) (fun i _ => n - (intOf i).toNat)
  case atStart => exact ⟨0, by omega, rfl, Below.refl _ _⟩
  case round =>
    obtain ⟨k, hk, rfl, hB⟩ := hrel
    by_cases hlt : k < n
    · have d1 : decide ((k : Int) < (n : Int)) = true := by simp; omega
      obtain ⟨ad, rfl, c0⟩ := (H.out.below hB.out) k _ (strs_get (by rw [HL.out]; exact hlt))
      obtain ⟨ad', rfl, c1⟩ := (H'.out.below hB.out) k _ (strs_get (by rw [HL.out]; exact hlt))
      have k0 : (0 : Int) ≤ (k : Int) := by omega
      have k1 : (k : Int) < (n : Int) := by omega
      generalize L.getD k [] = l at *
      go_wp2
      go_quiet (fail)
      go_wp2
      go_roundw
      case rel => exact ⟨k + 1, by omega, by go_num, below_drewN hB.out _⟩
      case measure => simp [intOf]; omega
    · obtain rfl : k = n := by omega
      have d1 : decide ((k : Int) < (k : Int)) = false := by simp
      go_wp2
      go_ret
      exact ⟨rfl, hB.out⟩
def fabCells (cast : Int) (A : Option Addr) (n cap : Nat) : Array Value := #[.int .i16 cast, .slice A n cap]
theorem fab_one (cast : Int) (A : Option Addr) (n cap : Nat) : (fabCells cast A n cap).all (·.oneCell') = true := by simp [fabCells, Value.oneCell']
set_option maxHeartbeats 1000000 in
theorem c_szFabric (cast : Int) (A : Option Addr) (cap : Nat) (L : List (List UInt8)) (w : World) (hR : RdRow w A (strs L)) (hm : L.length ≤ maxLen) (hl : ∀ l ∈ L, l.length ≤ maxLen) :
    Calls Try.prog 5 #[.agg #[.int .i16 cast, .slice A L.length cap], .int .i64 1048576] w fun e w' => e = .returned (.int .i64 (szF L.length (lensN L))) ∧ Below w.heap.size w w' := by
  have hb0 : Below w.heap.size w (w.alloc (.cells #[.int .i16 cast, .slice A L.length cap] 25 (0, 0))) := below_alloc (Below.refl _ _) _
  have CS := Lib.hid (c_szStringS A cap L _ (hR.below hb0) hm hl)
  have HB := Lib.hid hb0
  clear hb0 hR
  by_cases h : L.length + lensN L ≤ 1048576
  · have E := Lib.hid (szF_yes h)
    have d1 : decide (1048576 - (L.length : Int) - (lensN L : Int) < 0) = false := by simp; omega
    have CS2 : Hid (Calls Try.prog 16 #[.slice A L.length cap, .int .i64 1048576] (w.alloc (.cells #[.int .i16 cast, .slice A L.length cap] 25 (0, 0))) fun e w' => e = .returned (.int .i64 (1048576 - (L.length : Int) - (lensN L : Int))) ∧ (w.alloc (.cells #[.int .i16 cast, .slice A L.length cap] 25 (0, 0))) = w') := E.out ▸ CS.out
    clear CS
    go_enter Try.func5, Try.ntmps5
    go_wp2_with (go_at_call 16; ((with_reducible refine CS2.out.mono ?_); rintro e w1 ⟨rfl, rfl⟩))
    exact bodyPost_ret (v := .int .i64 (1048576 - (L.length : Int) - (lensN L : Int))) (by simp [results, Try.results5, go_sem]) rfl ⟨by rw [E.out], HB.out⟩
  · have E := Lib.hid (szF_no h)
    have CS2 : Hid (Calls Try.prog 16 #[.slice A L.length cap, .int .i64 1048576] (w.alloc (.cells #[.int .i16 cast, .slice A L.length cap] 25 (0, 0))) fun e w' => e = .returned (.int .i64 (-1)) ∧ (w.alloc (.cells #[.int .i16 cast, .slice A L.length cap] 25 (0, 0))) = w') := E.out ▸ CS.out
    clear CS
    go_enter Try.func5, Try.ntmps5
    go_wp2_with (go_at_call 16; ((with_reducible refine CS2.out.mono ?_); rintro e w1 ⟨rfl, rfl⟩))
    exact bodyPost_ret (v := .int .i64 (-1)) (by simp [results, Try.results5, go_sem]) rfl ⟨by rw [E.out], HB.out⟩
set_option maxHeartbeats 1000000 in
theorem c_toFabric (cast : Int) (A : Option Addr) (cap : Nat) (L : List (List UInt8)) (w : World) (hF : FabAt w cast A cap L) :
    Calls Try.prog 7 #[.agg #[.int .i16 cast, .slice A L.length cap]] w fun e w' => ∃ b, e = .returned (.agg #[.int .i16 cast, .slice (some ⟨b, 0, none⟩) L.length L.length]) ∧ w.heap.size ≤ b ∧ FabAt w' cast (some ⟨b, 0, none⟩) L.length L ∧ Below w.heap.size w w' := by
  have hnum := hF.num
  have HF := Lib.hid hF
  clear hF
  have HI : Hid ((Try.prog.info? 29).map (·.size) = some 2) := by show (Try.prog.info? 29).map (·.size) = some 2; kernel_rfl
  let W1 := w.alloc (.cells #[.int .i16 cast, .slice A L.length cap] 25 (0, 0))
  let W2 := W1.alloc (.cells #[.int .i16 0, .slice none 0 0] 29 (0, 0))
  let W3 := W2.alloc (.cells #[.int .i16 cast, .slice none 0 0] 29 (0, 0))
  have z1 : W1.heap.size = w.heap.size + 1 := World.size_alloc ..
  have z2 : W2.heap.size = w.heap.size + 1 + 1 := (World.size_alloc ..).trans (by rw [z1])
  have z3 : W3.heap.size = w.heap.size + 1 + 1 + 1 := (World.size_alloc ..).trans (by rw [z2])
  have HR3 : Hid (W3.heap[w.heap.size + 1]? = some (.cells #[.int .i16 0, .slice none 0 0] 29 (0, 0))) := by
    have := heap_alloc_new W1 (.cells #[.int .i16 0, .slice none 0 0] 29 (0, 0))
    rw [z1] at this
    exact blk_alloc this _
  have HT3 : Hid (W3.heap[w.heap.size + 1 + 1]? = some (.cells #[.int .i16 cast, .slice none 0 0] 29 (0, 0))) := by
    have := heap_alloc_new W2 (.cells #[.int .i16 cast, .slice none 0 0] 29 (0, 0))
    rw [z2] at this
    exact this
  have HB3 : Hid (Below w.heap.size w W3) := below_alloc (below_alloc (below_alloc (Below.refl _ _) _) _) _
  have CS := Lib.hid (c_toStringS A cap L W3 (HF.out.row.below HB3.out) hnum)
  have Z3 := Lib.hid z3
  clear z1 z2 z3
  go_enter Try.func7, Try.ntmps7
  go_wp2_with (first
    | (go_at_call 19; ((with_reducible refine CS.out.mono ?_); rintro e w1 ⟨rfl, hO, hb⟩; have hT := Lib.hid (blk_below HT3.out hb); have hR := Lib.hid (blk_below HR3.out hb); have x0 : w1.cell? ⟨w.heap.size + 1 + 1, 0, none⟩ = some (.int .i16 cast) := (blk_cell hT.out 0); have x1 : w1.cell? ⟨w.heap.size + 1 + 1, 1, none⟩ = some (.slice none 0 0) := (blk_cell hT.out 1); have f1 : w1.frozen? ⟨w.heap.size + 1 + 1, 1, none⟩ = false := (blk_frozen hT.out 1); have HO := Lib.hid hO; have HB1 := Lib.hid (below_then HB3.out hb); have hz := hb.size; clear hb hO))
    | (refine ev_store_row rfl 29 (.tmp 2) (.tmp 11) rfl (w.heap.size + 1) (fabCells cast (some ⟨W3.heap.size, 0, none⟩) L.length L.length) rfl rfl 29 #[.int .i16 0, .slice none 0 0] ?_ HI.out rfl (fab_one _ _ _ _) ?_; (exact blk_far hR.out (by omega) _ _); intro w6 hblk ht; have hR3 := Lib.hid hblk; clear hblk))
  have hz3 := Z3.out
  have HO2 := own_tou (own_tou HO.out (Tou.setCell w1 (w.heap.size + 1 + 1) 1 (.slice (some ⟨W3.heap.size, 0, none⟩) L.length L.length)) (by omega)) ht (by omega)
  exact bodyPost_ret (v := .agg (fabCells cast (some ⟨W3.heap.size, 0, none⟩) L.length L.length)) (results_cell_row rfl _ _ (w.heap.size + 1) 29 (fabCells cast (some ⟨W3.heap.size, 0, none⟩) L.length L.length) (0, 0) _ rfl hR3.out Try.underlying29 rfl HI.out) rfl
    ⟨W3.heap.size, rfl, by omega, ⟨hnum, HF.out.len, own_rd HO2, HF.out.bd⟩, (HB1.out.setCell (by simp; omega) _).trans (ht.below (by omega))⟩
set_option maxHeartbeats 1000000 in
theorem c_eqFabric (cast : Int) (A B : Option Addr) (c c' : Nat) (L : List (List UInt8)) (w : World) (h : FabAt w cast A c L) (h' : FabAt w cast B c' L) :
    Calls Try.prog 9 #[.agg #[.int .i16 cast, .slice A L.length c], .agg #[.int .i16 cast, .slice B L.length c']] w fun e w' => e = .returned (.bool true) ∧ Below w.heap.size w w' := by
  have hb0 : Below w.heap.size w ((w.alloc (.cells #[.int .i16 cast, .slice A L.length c] 29 (0, 0))).alloc (.cells #[.int .i16 cast, .slice B L.length c'] 29 (0, 0))) := below_alloc (below_alloc (Below.refl _ _) _) _
  have CE := Lib.hid (c_eqStringS A B c c' L _ (h.row.below hb0) (h'.row.below hb0) h.num)
  have HB := Lib.hid hb0
  clear hb0 h h'
  go_enter Try.func9, Try.ntmps9
  go_wp2_with (go_at_call 24; ((with_reducible refine CE.out.mono ?_); rintro e w1 ⟨rfl, hb⟩; have HB1 := Lib.hid (below_then HB.out hb); clear hb))
  go_ret
  exact ⟨rfl, HB1.out⟩
end Go.Proofs.Ytdcemmhfbfogdaa
