/- Slices of holes: compared, marked, held; the answers of SpotsIn. -/
import Derived.Test.YtcjpfgloemoobaaSpotsImpl
import Derived.Test.YtcjpfgloemoobaaHolesEq
namespace Go.Proofs.Ytcjpfgloemoobaa
open Go.RowKit
set_option linter.unusedVariables false
set_option linter.unusedSimpArgs false
set_option maxRecDepth 100000

def fU8 (k0 : Nat) (i : Nat) : Value := .int .u8 (IntKind.u8.wrap ((k0 : Int) + (i : Int)))
set_option maxHeartbeats 1000000 in
theorem c_markHolesS (v : Value) (base n k0 : Nat) (xs : List Value) (w : World) (h : w.ownsRow base 38 8 v n xs) (hn : n ≤ 1048576) (hk0 : k0 ≤ 100000000) :
    Calls Try.prog 39 #[v, .int .i64 (k0 : Int)] w fun e w' => e = .returned (.int .i64 ((k0 : Int) + ((n * 8 : Nat) : Int))) ∧ w'.ownsRow base 38 8 v n ((List.range (n * 8)).map (fU8 k0)) ∧ TouV v w w' := by
  obtain ⟨A, c, rfl, hA⟩ := own_form h
  have HX := Lib.hid h
  have hx := h.1
  clear h
  go_enter Try.func39, Try.ntmps39
  go_wp2
  go_loopw [5, 1] (fun i q wr => ∃ k : Nat, k ≤ n ∧ i = .int .i64 k ∧ q = .int .i64 ((k0 : Int) + ((k * 8 : Nat) : Int)) ∧ Hid (wr.ownsRow base 38 8 (.slice A n c) n (marked (fU8 k0) (k * 8) xs)) ∧ Hid (TouV (.slice A n c) w wr)) (fun i _ _ => n - (intOf i).toNat)
  case atStart => exact ⟨0, by omega, rfl, by simp, by rw [Hid, Nat.zero_mul, marked_zero]; exact HX.out, TouV.refl _ _⟩
  case round =>
    obtain ⟨k, hk, rfl, rfl, hI, hB⟩ := hrel
    by_cases hlt : k < n
    · have d1 : decide ((k : Int) < (n : Int)) = true := by simp; omega
      obtain ⟨g, rfl, hg⟩ := hA (by omega)
      have k1 : (0 : Int) ≤ (k : Int) := by omega
      have k2 : (k : Int) < (n : Int) := by omega
      go_wp2
      go_loopw [6, 1] (fun i q wr => ∃ m : Nat, m ≤ 8 ∧ i = .int .i64 m ∧ q = .int .i64 ((k0 : Int) + ((k * 8 + m : Nat) : Int)) ∧ Hid (wr.ownsRow base 38 8 (.slice (some ⟨g, 0, none⟩) n c) n (marked (fU8 k0) (k * 8 + m) xs)) ∧ Hid (TouV (.slice (some ⟨g, 0, none⟩) n c) w wr)) (fun i _ _ => 8 - (intOf i).toNat)
      case atStart => exact ⟨0, by omega, rfl, by simp, hI, hB⟩
      case round =>
        obtain ⟨m, hm, rfl, rfl, hI, hB⟩ := hrel
        by_cases hlt2 : m < 8
        · have d2 : decide ((m : Int) < 8) = true := by simp; omega
          have hkl : k * 8 + m < (marked (fU8 k0) (k * 8 + m) xs).length := by rw [marked_len _ (by omega)]; omega
          obtain ⟨x0, f0⟩ := own_get hI.out (List.getElem?_eq_getElem hkl)
          have m1 : (0 : Int) ≤ (m : Int) := by omega
          have m2 : (m : Int) < 8 := by omega
          have r1 : (k0 : Int) + ((k * 8 + m : Nat) : Int) ≤ 2147483647 := by omega
          have r0 : 0 ≤ (k0 : Int) + ((k * 8 + m : Nat) : Int) := by omega
          generalize (marked (fU8 k0) (k * 8 + m) xs)[k * 8 + m]'hkl = u at *
          go_wp2
          go_roundw
          case rel =>
            refine ⟨m + 1, by omega, by go_num, by go_num, ?_, TouV.setCell hB.out rfl _ _⟩
            have := own_set hI.out (k * 8 + m) (by omega) (.int .u8 (IntKind.u8.wrap ((k0 : Int) + ((k * 8 + m : Nat) : Int))))
            rw [show (Value.int .u8 (IntKind.u8.wrap ((k0 : Int) + ((k * 8 + m : Nat) : Int)))) = fU8 k0 (k * 8 + m) from rfl, marked_set (fU8 k0) (by omega)] at this
            exact this
          case measure => simp [intOf]; omega
        · obtain rfl : m = 8 := by omega
          have d2 : decide (((8 : Nat) : Int) < 8) = false := by simp
          go_wp2
          go_roundw
          case rel => exact ⟨k + 1, by omega, by go_num, by congr 2; omega, by rw [show (k + 1) * 8 = k * 8 + 8 by omega]; exact hI, hB⟩
          case measure => simp [intOf]; omega
    · obtain rfl : k = n := by omega
      have d1 : decide ((k : Int) < (k : Int)) = false := by simp
      have hO := hI.out
      rw [marked_all _ (by omega)] at hO
      have HO := Lib.hid hO
      clear hO hI
      go_wp2
      go_ret
      exact ⟨rfl, HO.out, hB.out⟩
set_option maxHeartbeats 1000000 in
theorem c_heldHolesS (v : Value) (base n k0 : Nat) (w : World) (h : w.ownsRow base 38 8 v n ((List.range (n * 8)).map (fU8 k0))) (hn : n ≤ 1048576) (hk0 : k0 ≤ 100000000) :
    Calls Try.prog 40 #[v, .int .i64 (k0 : Int)] w fun e w' => e = .returned (.int .i64 ((k0 : Int) + ((n * 8 : Nat) : Int))) ∧ w = w' := by
  obtain ⟨A, c, rfl, hA⟩ := own_form h
  have HX := Lib.hid h
  clear h
  go_enter Try.func40, Try.ntmps40
  go_wp2
  go_loop [5, 1] (fun i q => ∃ k : Nat, k ≤ n ∧ i = .int .i64 k ∧ q = .int .i64 ((k0 : Int) + ((k * 8 : Nat) : Int))) (fun i _ => n - (intOf i).toNat)
  case atStart => exact ⟨0, by omega, rfl, by simp⟩
  case round =>
    obtain ⟨k, hk, rfl, rfl⟩ := hrel
    by_cases hlt : k < n
    · have d1 : decide ((k : Int) < (n : Int)) = true := by simp; omega
      obtain ⟨g, rfl, hg⟩ := hA (by omega)
      have k1 : (0 : Int) ≤ (k : Int) := by omega
      have k2 : (k : Int) < (n : Int) := by omega
      go_wp2
      go_loop [6, 1] (fun i q => ∃ m : Nat, m ≤ 8 ∧ i = .int .i64 m ∧ q = .int .i64 ((k0 : Int) + ((k * 8 + m : Nat) : Int))) (fun i _ => 8 - (intOf i).toNat)
      case atStart => exact ⟨0, by omega, rfl, by simp⟩
      case round =>
        obtain ⟨m, hm, rfl, rfl⟩ := hrel
        by_cases hlt2 : m < 8
        · have d2 : decide ((m : Int) < 8) = true := by simp; omega
          obtain ⟨x0, f0⟩ := own_get HX.out (marked_get (fU8 k0) (show k * 8 + m < n * 8 by omega))
          rw [fU8] at x0
          have m1 : (0 : Int) ≤ (m : Int) := by omega
          have m2 : (m : Int) < 8 := by omega
          have r1 : (k0 : Int) + ((k * 8 + m : Nat) : Int) ≤ 2147483647 := by omega
          have r0 : 0 ≤ (k0 : Int) + ((k * 8 + m : Nat) : Int) := by omega
          go_wp2
          go_round
          case rel => exact ⟨m + 1, by omega, by go_num, by go_num⟩
          case measure => simp [intOf]; omega
        · obtain rfl : m = 8 := by omega
          have d2 : decide (((8 : Nat) : Int) < 8) = false := by simp
          go_wp2
          go_round
          case rel => exact ⟨k + 1, by omega, by go_num, by congr 2; omega⟩
          case measure => simp [intOf]; omega
    · obtain rfl : k = n := by omega
      have d1 : decide ((k : Int) < (k : Int)) = false := by simp
      go_wp2
      go_ret
      exact ⟨rfl, rfl⟩
theorem c_markHoles1 (v : Value) (base n : Nat) (xs : List Value) (w : World) (h : w.ownsRow base 38 8 v n xs) (hn : n ≤ 1048576) :
    Calls Try.prog 39 #[v, .int .i64 1] w fun e w' => e = .returned (.int .i64 (1 + ((n * 8 : Nat) : Int))) ∧ w'.ownsRow base 38 8 v n ((List.range (n * 8)).map (fU8 1)) ∧ TouV v w w' := c_markHolesS v base n 1 xs w h hn (by omega)
theorem c_heldHoles1 (v : Value) (base n : Nat) (w : World) (h : w.ownsRow base 38 8 v n ((List.range (n * 8)).map (fU8 1))) (hn : n ≤ 1048576) :
    Calls Try.prog 40 #[v, .int .i64 1] w fun e w' => e = .returned (.int .i64 (1 + ((n * 8 : Nat) : Int))) ∧ w = w' := c_heldHolesS v base n 1 w h hn (by omega)
theorem rows8_get {L : List (List Int)} {k j : Nat} (hP : ∀ s ∈ L, Holes8 s) (hk : k < L.length) (hj : j < 8) : (rows8 L)[k * 8 + j]? = some (.int .u8 (gi (L.getD k []) j)) := by
  have h := flatten_get (sz := 8) (es := L.map (nums .u8)) (by intro c hc; obtain ⟨z, hz, rfl⟩ := List.mem_map.1 hc; rw [nums_length]; exact (hP z hz).len) k (by simpa using hk) j hj
  rw [rows8, List.flatMap_def, h]
  have e : L.getD k [] = L[k]'hk := by simp [List.getD, hk]
  rw [e]
  simp only [List.getElem?_map, List.getElem?_eq_getElem hk, Option.map_some, Option.getD_some]
  exact nums_get (by rw [(hP _ (List.getElem_mem hk)).len]; exact hj)
theorem rows8_get0 {L : List (List Int)} {k : Nat} (hP : ∀ s ∈ L, Holes8 s) (hk : k < L.length) : (rows8 L)[k * 8]? = some (.int .u8 (gi (L.getD k []) 0)) := rows8_get (j := 0) hP hk (by omega)
set_option maxHeartbeats 1000000 in
theorem c_eqHolesS (v v' : Value) (base base' : Nat) (L : List (List Int)) (w : World) (h : w.ownsRow base 38 8 v L.length (rows8 L)) (h' : w.ownsRow base' 38 8 v' L.length (rows8 L)) (hP : ∀ s ∈ L, Holes8 s) (hn : L.length ≤ 1048576) :
    Calls Try.prog 38 #[v, v'] w fun e w' => e = .returned (.bool true) ∧ Below w.heap.size w w' := by
  obtain ⟨A, c, rfl, hA⟩ := own_form h
  obtain ⟨B, c', rfl, hB⟩ := own_form h'
  have H := Lib.hid h
  have H' := Lib.hid h'
  have HP := Lib.hid hP
  have C8 := Lib.hid (fun k (hk : k < L.length) => (show Holes8 (L.getD k []) from by rw [show L.getD k [] = L[k]'hk from by simp [List.getD, hk]]; exact hP _ (List.getElem_mem hk)))
  clear h h' hP
  obtain ⟨n, hnn⟩ : ∃ n, n = L.length := ⟨_, rfl⟩
  go_enter Try.func38, Try.ntmps38
  go_wp2
  go_loopw [5] (fun i wr => ∃ k : Nat, k ≤ L.length ∧ i = .int .i64 k ∧ Hid (Below w.heap.size w wr)) (fun i _ => L.length - (intOf i).toNat)
  case atStart => exact ⟨0, by omega, rfl, Below.refl _ _⟩
  case round =>
    obtain ⟨k, hk, rfl, hW⟩ := hrel
    by_cases hlt : k < L.length
    · have d1 : decide ((k : Int) < (L.length : Int)) = true := by simp; omega
      obtain ⟨g, rfl, hg⟩ := hA (by omega)
      obtain ⟨g', rfl, hg'⟩ := hB (by omega)
      have k1 : (0 : Int) ≤ (k : Int) := by omega
      have k2 : (k : Int) < (L.length : Int) := by omega
      have O := Lib.hid (own_below H.out hW.out)
      have O' := Lib.hid (own_below H'.out hW.out)
      have a0 := (own_get O.out (rows8_get0 HP.out hlt)).1
      have a1 := (own_get O.out (rows8_get HP.out hlt (j := 1) (by omega))).1
      have a2 := (own_get O.out (rows8_get HP.out hlt (j := 2) (by omega))).1
      have a3 := (own_get O.out (rows8_get HP.out hlt (j := 3) (by omega))).1
      have a4 := (own_get O.out (rows8_get HP.out hlt (j := 4) (by omega))).1
      have a5 := (own_get O.out (rows8_get HP.out hlt (j := 5) (by omega))).1
      have a6 := (own_get O.out (rows8_get HP.out hlt (j := 6) (by omega))).1
      have a7 := (own_get O.out (rows8_get HP.out hlt (j := 7) (by omega))).1
      have b0 := (own_get O'.out (rows8_get0 HP.out hlt)).1
      have b1 := (own_get O'.out (rows8_get HP.out hlt (j := 1) (by omega))).1
      have b2 := (own_get O'.out (rows8_get HP.out hlt (j := 2) (by omega))).1
      have b3 := (own_get O'.out (rows8_get HP.out hlt (j := 3) (by omega))).1
      have b4 := (own_get O'.out (rows8_get HP.out hlt (j := 4) (by omega))).1
      have b5 := (own_get O'.out (rows8_get HP.out hlt (j := 5) (by omega))).1
      have b6 := (own_get O'.out (rows8_get HP.out hlt (j := 6) (by omega))).1
      have b7 := (own_get O'.out (rows8_get HP.out hlt (j := 7) (by omega))).1
      have CE : ∀ w, Hid (Calls Try.prog 24 #[.agg #[.int .u8 (gi (L.getD k []) 0), .int .u8 (gi (L.getD k []) 1), .int .u8 (gi (L.getD k []) 2), .int .u8 (gi (L.getD k []) 3), .int .u8 (gi (L.getD k []) 4), .int .u8 (gi (L.getD k []) 5), .int .u8 (gi (L.getD k []) 6), .int .u8 (gi (L.getD k []) 7)], .agg #[.int .u8 (gi (L.getD k []) 0), .int .u8 (gi (L.getD k []) 1), .int .u8 (gi (L.getD k []) 2), .int .u8 (gi (L.getD k []) 3), .int .u8 (gi (L.getD k []) 4), .int .u8 (gi (L.getD k []) 5), .int .u8 (gi (L.getD k []) 6), .int .u8 (gi (L.getD k []) 7)]] w fun e w' => e = .returned (.bool true) ∧ Below w.heap.size w w') := fun w => by
        have := c_eqHoles (L.getD k []) w (C8.out k hlt)
        rw [nums_eight (C8.out k hlt).len] at this
        exact this
      generalize gi (L.getD k []) 0 = q0 at *
      generalize gi (L.getD k []) 1 = q1 at *
      generalize gi (L.getD k []) 2 = q2 at *
      generalize gi (L.getD k []) 3 = q3 at *
      generalize gi (L.getD k []) 4 = q4 at *
      generalize gi (L.getD k []) 5 = q5 at *
      generalize gi (L.getD k []) 6 = q6 at *
      generalize gi (L.getD k []) 7 = q7 at *
      go_wp2
      go_still_tail 8, (by kernel_rfl)
      change wpList _ _ _ _ _ wr.drew
      have HBd : Hid (Below w.heap.size w wr.drew) := below_drew hW.out
      clear a0 a1 a2 a3 a4 a5 a6 a7 b0 b1 b2 b3 b4 b5 b6 b7 O O'
      generalize wr.drew = wd at *
      go_wp2_with (go_at_call 24; ((with_reducible refine (CE _).out.mono ?_); rintro e w1 ⟨rfl, hb⟩))
      go_roundw
      case rel => exact ⟨k + 1, by omega, by go_num, Below.trans HBd.out (hb.mono HBd.out.size)⟩
      case measure => simp [intOf]; omega
    · obtain hk2 : k = L.length := by omega
      subst hk2
      have d1 : decide ((L.length : Int) < (L.length : Int)) = false := by simp
      go_wp2
      go_ret
      exact ⟨rfl, hW.out⟩
theorem c_sSpotsIn (hs : List Int) (h8 : Holes8 hs) (w : World) :
    Calls Try.prog 36 #[.agg (nums .u8 hs).toArray] w fun e w' => ∃ v, e = .returned (.tuple #[v, .int .i64 0]) ∧ w'.ownsRow w.heap.size 38 8 v (spotsN hs 64).1.length (rows8 (spotsN hs 64).1) ∧ Below w.heap.size w w' := by
  have HI := Lib.hid (holes_info h8.len)
  have HB0 : Hid (Below w.heap.size w (w.alloc (.cells (nums .u8 hs).toArray 38 (0, 0)))) := below_alloc (Below.refl _ _) _
  have HA := Lib.hid (heap_alloc_new w (.cells (nums .u8 hs).toArray 38 (0, 0)))
  have CS := fun w => Lib.hid (c_l06Spots hs h8 w)
  clear h8
  go_enter Try.func36, Try.ntmps36
  go_wp2_with (first
    | (refine wpList_load_row rfl 38 (.tmp 1) rfl (w.heap.size) rfl 38 (nums .u8 hs).toArray (0, 0) _ ?_ Try.underlying38 rfl HI.out ?_; (with_reducible exact HA.out))
    | (go_at_call 84; ((with_reducible refine (CS _).out.mono ?_); rintro e w1 ⟨v, rfl, hO, hb⟩)))
  exact bodyPost_ret (v := .tuple #[v, .int .i64 0]) (by simp [results, Try.results36, go_sem]) rfl ⟨_, rfl, own_mono hO HB0.out.size, below_then HB0.out hb⟩
theorem c_iSpotsIn (hs : List Int) (h8 : Holes8 hs) (w : World) :
    Calls Try.prog 37 #[.agg (nums .u8 hs).toArray] w fun e w' => ∃ v, e = .returned (.tuple #[v, .int .i64 0]) ∧ w'.ownsRow w.heap.size 38 8 v (spotsN hs 64).1.length (rows8 (spotsN hs 64).1) ∧ Below w.heap.size w w' := by
  have HI := Lib.hid (holes_info h8.len)
  have HB0 : Hid (Below w.heap.size w (w.alloc (.cells (nums .u8 hs).toArray 38 (0, 0)))) := below_alloc (Below.refl _ _) _
  have HA := Lib.hid (heap_alloc_new w (.cells (nums .u8 hs).toArray 38 (0, 0)))
  have CS := fun w => Lib.hid (c_spots hs h8 w)
  clear h8
  go_enter Try.func37, Try.ntmps37
  go_wp2_with (first
    | (refine wpList_load_row rfl 38 (.tmp 1) rfl (w.heap.size) rfl 38 (nums .u8 hs).toArray (0, 0) _ ?_ Try.underlying38 rfl HI.out ?_; (with_reducible exact HA.out))
    | (go_at_call 85; ((with_reducible refine (CS _).out.mono ?_); rintro e w1 ⟨v, rfl, hO, hb⟩)))
  exact bodyPost_ret (v := .tuple #[v, .int .i64 0]) (by simp [results, Try.results37, go_sem]) rfl ⟨_, rfl, own_mono hO HB0.out.size, below_then HB0.out hb⟩
end Go.Proofs.Ytcjpfgloemoobaa
