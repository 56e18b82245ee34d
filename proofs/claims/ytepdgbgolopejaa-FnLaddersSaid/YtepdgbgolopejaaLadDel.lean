/- The loops of a ladder that are left: slices.DeleteFunc. -/
import Derived.Test.YtepdgbgolopejaaLadImpl
namespace Go.Proofs.Ytepdgbgolopejaa
open Go.RowKit
set_option linter.unusedVariables false
set_option linter.unusedSimpArgs false
set_option maxRecDepth 100000

theorem own_set_out {base g c : Nat} {e : TypeId} {size n : Nat} {w : World} {xs : List Value} (h : w.ownsRow base e size (.slice (some ⟨g, 0, none⟩) n c) n xs) (j : Nat) (hj : n * size ≤ j) (u : Value) :
    (w.setCell ⟨g, j, none⟩ u).ownsRow base e size (.slice (some ⟨g, 0, none⟩) n c) n xs := by
  refine ⟨h.1, ?_⟩
  rcases h.2 with ⟨h0, _⟩ | ⟨g', cap, cur, h0, hb, hblk, h1, h2, h3, h4⟩
  · cases h0
  · cases h0
    refine .inr ⟨g, _, cur.setIfInBounds j u, rfl, hb, blk_set hblk j u, h1, h2, by simp [h3], ?_⟩
    rw [Array.toList_setIfInBounds, List.take_set, List.set_eq_of_length_le (by have := h.1; simp; omega)]
    exact h4
theorem own_setCells_out {base g c : Nat} {e : TypeId} {size n : Nat} : ∀ (vs : List Value) {w : World} {xs : List Value} (o : Nat), w.ownsRow base e size (.slice (some ⟨g, 0, none⟩) n c) n xs → n * size ≤ o →
    (w.setCells g o vs).ownsRow base e size (.slice (some ⟨g, 0, none⟩) n c) n xs
  | [], _, _, _, h, _ => h
  | v :: r, w, xs, o, h, ho => own_setCells_out r (o + 1) (own_set_out h o ho v) (by omega)
theorem below_setCells {base g : Nat} {w0 : World} (hg : base ≤ g) : ∀ (vs : List Value) {w : World} (o : Nat), Below base w0 w → Below base w0 (w.setCells g o vs)
  | [], _, _, h => h
  | v :: r, w, o, h => below_setCells hg r (o + 1) (h.setCell (by simpa using hg) v)
theorem own_shrink {w : World} {base g c : Nat} {e : TypeId} {size n m : Nat} {xs : List Value} (h : w.ownsRow base e size (.slice (some ⟨g, 0, none⟩) n c) n xs) (hm : m ≤ n) :
    w.ownsRow base e size (.slice (some ⟨g, 0, none⟩) m c) m (xs.take (m * size)) := by
  have hms : m * size ≤ n * size := Nat.mul_le_mul_right _ hm
  refine ⟨by rw [List.length_take, h.1, Nat.min_eq_left hms], ?_⟩
  rcases h.2 with ⟨h0, _⟩ | ⟨g', cap, cur, h0, hb, hblk, h1, h2, h3, h4⟩
  · cases h0
  · cases h0
    refine .inr ⟨g, _, cur, rfl, hb, hblk, by omega, h2, h3, ?_⟩
    rw [← h4, List.take_take, Nat.min_eq_left hms]

/-- 'clear' of a slice of several elements of several cells. -/
theorem run_clearN {P : Program} {w : World} (t e ty : TypeId) (z : Value) (h1 : P.underlying t = some (.slice e)) (hinfo : (P.info? e).map (fun i => i.zero) = some (some z)) (hone : ∀ v ∈ z.cells.toList, v.oneCell' = true)
    (b off n c : Nat) (hn : 0 < n) (hc : ∀ j, j < n * z.cells.size → (w.cell? ⟨b, off + j, none⟩).isSome = true ∧ w.frozen? ⟨b, off + j, none⟩ = false) :
    (Builtin.clear_ #[t] ty #[.slice (some ⟨b, off, none⟩) n c]).run P w = .ok (.tuple #[]) (w.setCells b off (Builtin.zeroCells z.cells n).toList) := by
  obtain ⟨i0, hi, hz⟩ := Option.map_eq_some_iff.1 hinfo
  have hsz : (Builtin.zeroCells z.cells n).toList.length = n * z.cells.size := by simp [Builtin.zeroCells]
  have hone' : ∀ v ∈ (Builtin.zeroCells z.cells n).toList, v.oneCell' = true := by
    intro v hv
    obtain ⟨j, hj, rfl⟩ := List.getElem_of_mem hv
    have h0 : 0 < z.cells.size := by
      rcases Nat.eq_zero_or_pos z.cells.size with e | e
      · rw [hsz, e, Nat.mul_zero] at hj; omega
      · exact e
    have hm : j % z.cells.size < z.cells.size := Nat.mod_lt _ h0
    have : (Builtin.zeroCells z.cells n).toList[j] = z.cells[j % z.cells.size] := by simp [Builtin.zeroCells, hm]
    rw [this]
    exact hone _ (by simp)
  have hst := run_storeCells_cells (P := P) b off (Builtin.zeroCells z.cells n).toList 0 w (fun j hj => (hc j (by rw [← hsz]; exact hj)).1) (fun j hj => (hc j (by rw [← hsz]; exact hj)).2) hone'
  simp only [Nat.add_zero] at hst
  obtain ⟨m, rfl⟩ : ∃ m, n = m + 1 := ⟨n - 1, by omega⟩
  simp [Builtin.clear_, run_underlying h1, zeroValue, typeInfo, hi, hz, hst]
theorem lpRow_append (X Y : List (Int × Int)) : lpRow (X ++ Y) = lpRow X ++ lpRow Y := by simp [lpRow]
theorem lpRow_get : ∀ {Y : List (Int × Int)} {j : Nat} (h : j < Y.length), (lpRow Y)[j * 2]? = some (.int .i16 Y[j].1) ∧ (lpRow Y)[j * 2 + 1]? = some (.int .i16 Y[j].2)
  | y :: Y, 0, h => by simp [lpRow]
  | y :: Y, j + 1, h => by
    have := lpRow_get (Y := Y) (j := j) (by simpa using h)
    have e : lpRow (y :: Y) = [.int .i16 y.1, .int .i16 y.2] ++ lpRow Y := by simp [lpRow]
    rw [e, List.getElem?_append_right (by simp; omega), List.getElem?_append_right (by simp; omega)]
    simpa [show (j + 1) * 2 - 2 = j * 2 by omega, show (j + 1) * 2 + 1 - 2 = j * 2 + 1 by omega] using this
set_option maxHeartbeats 1000000 in
theorem c_cl1 (r x row : Int) (b : Nat) (w : World) (hr : -32768 ≤ r ∧ r ≤ 32767) (hc : w.cell? ⟨b, 0, none⟩ = some (.int .i64 row)) :
    Calls Try.prog 45 #[.agg #[.int .i16 r, .int .i16 x], .pointer (some ⟨b, 0, none⟩)] w fun e w' => e = .returned (.bool (decide (r ≤ row))) ∧ Below w.heap.size w w' := by
  obtain ⟨h0, h1⟩ := hr
  have hlt := World.block_lt_of_cell? w _ hc
  have hne : ¬ b = w.heap.size := by simp at hlt; omega
  go_enter Try.func45, Try.ntmps45
  go_wp2
  exact bodyPost_ret (v := .bool (decide (r ≤ row))) (by simp [results, Try.results45, go_sem]) rfl ⟨rfl, below_alloc (Below.refl _ _) _⟩
/-- Loops of which those up to a row stand behind the others. -/
structure Parted (T R : List (Int × Int)) (row : Int) : Prop where
  hi : ∀ t ∈ T, row < t.1
  lo : ∀ t ∈ R, t.1 ≤ row
  bd : ∀ t ∈ T ++ R, -32768 ≤ t.1 ∧ t.1 ≤ 32767
set_option maxHeartbeats 1000000 in
theorem c_indexLp (g base c b : Nat) (T R : List (Int × Int)) (row : Int) (w : World) (h : w.ownsRow base 39 2 (.slice (some ⟨g, 0, none⟩) (T ++ R).length c) (T ++ R).length (lpRow (T ++ R))) (hn : (T ++ R).length ≤ 1000000) (hp : Parted T R row) (hc : w.cell? ⟨b, 0, none⟩ = some (.int .i64 row)) :
    Calls Try.prog 65 #[.slice (some ⟨g, 0, none⟩) (T ++ R).length c, .func (.func 45) #[] #[.pointer (some ⟨b, 0, none⟩)]] w fun e w' => e = .returned (.int .i64 (if R = [] then -1 else (T.length : Int))) ∧ Below w.heap.size w w' := by
  have H := Lib.hid h
  have HP := Lib.hid hp
  have HC := Lib.hid hc
  have hlt := World.block_lt_of_cell? w _ hc
  have HLT := Lib.hid hlt
  clear h hp hc hlt
  obtain ⟨n, hN⟩ : ∃ n, (T ++ R).length = n := ⟨_, rfl⟩
  have HN := Lib.hid hN
  rw [hN] at hn H ⊢
  clear hN
  have hTn : T.length ≤ n := by rw [← HN.out]; simp
  have HR0 : Hid (R = [] ↔ T.length = n) := by
    rw [Hid, ← HN.out, List.length_append, ← List.length_eq_zero_iff]; omega
  go_enter Try.func65, Try.ntmps65
  go_wp2
  go_loopw [8] (fun i wr => ∃ k : Nat, k ≤ T.length ∧ i = .int .i64 k ∧ Hid (Below w.heap.size w wr)) (fun i _ => T.length + 1 - (intOf i).toNat)
  case atStart => exact ⟨0, by omega, rfl, Below.refl _ _⟩
  case round =>
    obtain ⟨k, hk, rfl, hB⟩ := hrel
    by_cases hkn : k < n
    · have d1 : decide ((k : Int) < (n : Int)) = true := by simp; omega
      have hkl : k < (T ++ R).length := by rw [HN.out]; exact hkn
      have c0 := (own_get (own_below H.out hB.out) (lpRow_get hkl).1).1
      have c1 := (own_get (own_below H.out hB.out) (lpRow_get hkl).2).1
      have k0 : (0 : Int) ≤ (k : Int) := by omega
      have k1 : (k : Int) < (n : Int) := by omega
      have HX := Lib.hid (hB.out.cell (p := ⟨b, 0, none⟩) HLT.out |>.trans HC.out)
      have hbd := HP.out.bd _ (List.getElem_mem hkl)
      have CC := Lib.hid (c_cl1 (T ++ R)[k].1 (T ++ R)[k].2 row b wr hbd HX.out)
      by_cases hkT : k < T.length
      · have hd : decide ((T ++ R)[k].1 ≤ row) = false := by
          have := HP.out.hi (T ++ R)[k] (by rw [List.getElem_append_left hkT]; exact List.getElem_mem hkT)
          simp only [decide_eq_false_iff_not]; omega
        rw [hd] at CC
        clear hd hbd
        generalize (T ++ R)[k].1 = y0 at *
        generalize (T ++ R)[k].2 = y1 at *
        go_wp2_with (go_at_call 45; ((refine CC.out.mono ?_); rintro e w1 ⟨rfl, hb⟩; have HB1 := Lib.hid (below_then hB.out hb); clear hb))
        go_roundw
        case rel => exact ⟨k + 1, by omega, by go_num, HB1⟩
        case measure => simp [intOf]; omega
      · obtain rfl : k = T.length := by omega
        have hd : decide ((T ++ R)[T.length].1 ≤ row) = true := by
          have hR : T.length - T.length < R.length := by have := HN.out; rw [List.length_append] at this; omega
          have := HP.out.lo (T ++ R)[T.length] (by rw [List.getElem_append_right (Nat.le_refl _)]; exact List.getElem_mem hR)
          simpa using this
        have HRN : Hid (¬ R = []) := fun e => by have := HR0.out.1 e; omega
        rw [hd] at CC
        clear hd hbd
        generalize (T ++ R)[T.length].1 = y0 at *
        generalize (T ++ R)[T.length].2 = y1 at *
        go_wp2_with (go_at_call 45; ((refine CC.out.mono ?_); rintro e w1 ⟨rfl, hb⟩; have HB1 := Lib.hid (below_then hB.out hb); clear hb))
        exact bodyPost_ret (v := .int .i64 (T.length : Int)) (by simp [results, Try.results65, go_sem]) rfl ⟨rfl, HB1.out⟩
    · have hkn2 : k = n := by omega
      have HRN : Hid (R = []) := HR0.out.2 (by omega)
      subst hkn2
      have d1 : decide ((k : Int) < (k : Int)) = false := by simp
      go_wp2
      exact bodyPost_ret (v := .int .i64 (-1)) (by simp [results, Try.results65, go_sem]) rfl ⟨rfl, hB.out⟩
set_option maxHeartbeats 2000000 in
theorem c_delLp (g base c b : Nat) (T R : List (Int × Int)) (row : Int) (w : World) (h : w.ownsRow base 39 2 (.slice (some ⟨g, 0, none⟩) (T ++ R).length c) (T ++ R).length (lpRow (T ++ R))) (hn : (T ++ R).length ≤ 1000000) (hp : Parted T R row) (hc : w.cell? ⟨b, 0, none⟩ = some (.int .i64 row)) :
    Calls Try.prog 44 #[.slice (some ⟨g, 0, none⟩) (T ++ R).length c, .func (.func 45) #[] #[.pointer (some ⟨b, 0, none⟩)]] w fun e w' => ∃ v, e = .returned v ∧ w'.ownsRow base 39 2 v T.length (lpRow T) ∧ Below base w w' := by
  have CI := Lib.hid (c_indexLp g base c b T R row w h hn hp hc)
  have H := Lib.hid h
  have HP := Lib.hid hp
  have HC := Lib.hid hc
  have hlt := World.block_lt_of_cell? w _ hc
  have HLT := Lib.hid hlt
  have HBG : Hid (base ≤ g ∧ g < w.heap.size) := by
    exact h.lt g rfl
  clear h hp hc hlt
  by_cases hR : R = []
  · subst hR
    rw [if_pos rfl] at CI
    rw [List.append_nil] at *
    go_enter Try.func44, Try.ntmps44
    go_wp2_with (go_at_call 65; ((refine CI.out.mono ?_); rintro e w1 ⟨rfl, hb⟩; have HB1 := Lib.hid hb; clear hb))
    exact bodyPost_ret (v := .slice (some ⟨g, 0, none⟩) T.length c) (by simp [results, Try.results44, go_sem]) rfl ⟨_, rfl, own_below H.out HB1.out, HB1.out.mono (by have := HBG.out; omega)⟩
  · rw [if_neg hR] at CI
    have hRp : 0 < R.length := List.length_pos_iff.2 hR
    obtain ⟨n, hN⟩ : ∃ n, (T ++ R).length = n := ⟨_, rfl⟩
    have HN := Lib.hid hN
    rw [hN] at hn H CI ⊢
    have hTn : T.length < n := by rw [← hN, List.length_append]; omega
    clear hN hR
    have t0 : (0 : Int) ≤ (T.length : Int) := by omega
    have t1 : (T.length : Int) ≤ (n : Int) := by omega
    have t2 : ¬ ((T.length : Int) = -1) := by omega
    have hcap : n ≤ c := by
      rcases H.out.2 with ⟨h0, _⟩ | ⟨g', cap, cur, h0, _, _, h1, _⟩
      · cases h0
      · cases h0; exact h1
    have t3 : (n : Int) ≤ (c : Int) := by omega
    go_enter Try.func44, Try.ntmps44
    go_wp2_with (go_at_call 65; ((refine CI.out.mono ?_); rintro e w1 ⟨rfl, hb⟩; have HB1 := Lib.hid hb; clear hb))
    go_loopw [6, 5] (fun j i wr => ∃ k : Nat, T.length < k ∧ k ≤ n ∧ j = .int .i64 k ∧ i = .int .i64 (T.length : Int) ∧ Hid (Below w.heap.size w wr)) (fun j _ _ => n - (intOf j).toNat)
    case atStart => exact ⟨T.length + 1, by omega, by omega, by go_num, rfl, HB1⟩
    case round =>
      obtain ⟨k, hk, hkn, rfl, rfl, hB⟩ := hrel
      by_cases hlt : k < n
      · have d1 : decide ((k : Int) < (n : Int)) = true := by simp; omega
        have hkl : k < (T ++ R).length := by rw [HN.out]; exact hlt
        have c0 := (own_get (own_below H.out hB.out) (lpRow_get hkl).1).1
        have c1 := (own_get (own_below H.out hB.out) (lpRow_get hkl).2).1
        have k0 : (0 : Int) ≤ (k : Int) := by omega
        have k1 : (k : Int) < (n : Int) := by omega
        have hbd := HP.out.bd _ (List.getElem_mem hkl)
        have hd : decide ((T ++ R)[k].1 ≤ row) = true := by
          have hR : k - T.length < R.length := by have := HN.out; rw [List.length_append] at this; omega
          have := HP.out.lo (T ++ R)[k] (by rw [List.getElem_append_right (by omega)]; exact List.getElem_mem hR)
          simpa using this
        have CC := Lib.hid (fun w' h => c_cl1 (T ++ R)[k].1 (T ++ R)[k].2 row b w' hbd h)
        rw [hd] at CC
        clear hd hbd
        generalize (T ++ R)[k].1 = y0 at *
        generalize (T ++ R)[k].2 = y1 at *
        go_wp2_with (go_at_call 45; have HB2 := Lib.hid (below_alloc hB.out (.cells #[.int .i16 y0, .int .i16 y1] 39 (0, 0))); ((refine (CC.out _ ((HB2.out.cell (p := ⟨b, 0, none⟩) HLT.out).trans HC.out)).mono ?_); rintro e w2 ⟨rfl, hb⟩; have HB3 := Lib.hid (below_then HB2.out hb); clear hb))
        go_roundw
        case rel => exact ⟨_, _, _, _, _, _, _, _, _, _, _, _, _, _, _, _, _, _, _, _, _, _, _, ⟨k + 1, by omega, by omega, by go_num, rfl, HB3⟩, rfl⟩
        case measure => simp [intOf]; omega
      · obtain rfl : k = n := by omega
        have d1 : decide ((k : Int) < (k : Int)) = false := by simp
        have HO := Lib.hid (own_below H.out hB.out)
        have HS : Hid (wr.ownsRow base 39 2 (.slice (some ⟨g, 0, none⟩) T.length c) T.length (lpRow T)) := by
          have := own_shrink HO.out (m := T.length) (by omega)
          rwa [lpRow_append, List.take_left' (lpRow_len T)] at this
        have hclr := run_clearN (P := Try.prog) (w := wr) 34 39 0 (.agg #[.int .i16 0, .int .i16 0]) Try.underlying34 (by kernel_rfl) (by decide) g (T.length * 2) (k - T.length) (c - T.length) (by omega) (fun j hj => by
          have hj2 : T.length * 2 + j < (lpRow (T ++ R)).length := by rw [lpRow_len, HN.out]; simp [Value.cells] at hj; omega
          have := own_get HO.out (List.getElem?_eq_getElem hj2)
          exact ⟨by rw [this.1]; rfl, this.2⟩)
        go_wp2
        exact bodyPost_ret (v := .slice (some ⟨g, 0, none⟩) T.length c) (by simp [results, Try.results44, go_sem]) rfl ⟨_, rfl, own_setCells_out _ _ HS.out (Nat.le_refl _), below_setCells HBG.out.1 _ _ (hB.out.mono (by have := HBG.out; omega))⟩
end Go.Proofs.Ytepdgbgolopejaa
