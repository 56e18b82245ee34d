/- Texts laid together: DrawMov, SplitPure. -/
import Derived.Test.YtjhifpidbobmaaaGreatDoorMg15
import Derived.Test.YtjhifpidbobmaaaGreatDoorMg21
import Derived.Test.YtjhifpidbobmaaaGreatDoorMg07
import Derived.Test.YtjhifpidbobmaaaGreatDoorMg22
import Derived.Test.YtjhifpidbobmaaaGreatDoorMg11
import Derived.StillTailTactics
import Derived.Laws.StructEq
import Derived.Deep.DeepCutAuto
import Derived.BigQuiet
import Derived.Deep.QuietTactic
/- Moves drawn from bytes; what the law on moves calls beside the program. -/
namespace Go.Proofs.YtjhifpidbobmaaaGreatDoor
open Go.RowKit
set_option linter.unusedVariables false
set_option linter.unusedSimpArgs false
set_option maxRecDepth 100000

theorem Drawn.belowM {g k B : Nat} {w w1 : World} (h : Drawn g k w w1) (hg : B ≤ g) (hk : B ≤ k) : Below B w w1 := ⟨h.os, h.tape, h.output, h.size, fun i hi => h.block i (by omega) (by omega)⟩
theorem Drawn.thenB {g k : Nat} {w w1 w2 : World} (h : Drawn g k w w1) (hb : Below k w1 w2) : Drawn g k w w2 := ⟨hb.os.trans h.os, hb.tape.trans h.tape, hb.output.trans h.output, Nat.le_trans h.size hb.size, fun i hi hg => (hb.block i hi).trans (h.block i hi hg)⟩
theorem Src.belowM {g N B : Nat} {A : Option Addr} {cap : Nat} {xs : List Int} {w w1 : World} (h : Src g N A cap xs w) (hb : Below B w w1) (hg : g < B) (hA : ∀ ad, A = some ad → xs ≠ [] → ad.block < B) : Src g N A cap xs w1 := by
  obtain ⟨⟨at_, sd, ha, hs, hk⟩, hB, hp⟩ := h
  refine ⟨⟨at_, sd, ha, hs, (hb.block g hg).trans hk⟩, ⟨fun j u hj => ?_, hB.bd, hB.num⟩, hp⟩
  obtain ⟨ad, e, hc⟩ := hB.row j u hj
  have hne : xs ≠ [] := fun e2 => by rw [e2] at hj; simp [nums] at hj
  refine ⟨ad, e, (World.cell?_of_block ?_).trans hc⟩
  show w1.heap[(ad.add j).block]? = w.heap[(ad.add j).block]?
  have : (ad.add j).block = ad.block := by unfold Addr.add; split <;> rfl
  rw [this]
  exact hb.block _ (hA ad e hne)
theorem oneM3 (a b g : Int) : ([.int .i8 a, .int .i8 b, .int .i16 g] : List Value).all (·.oneCell') = true := by simp [Value.oneCell']
theorem four_cell {w1 : World} {gb : Nat} {t : TypeId} (hB1 : w1.heap[gb]? = some (.cells #[.int .i64 1, .int .i64 2, .int .i64 3, .int .i64 4] t (0, 0))) {j : Nat} (hj : j < 4) : w1.cell? ⟨gb, j, none⟩ = some (.int .i64 ((j : Int) + 1)) := by
  rcases (show j = 0 ∨ j = 1 ∨ j = 2 ∨ j = 3 by omega) with rfl | rfl | rfl | rfl
  · exact cell_of_row w1 gb 0 _ _ _ hB1
  · exact cell_of_row w1 gb 1 _ _ _ hB1
  · exact cell_of_row w1 gb 2 _ _ _ hB1
  · exact cell_of_row w1 gb 3 _ _ _ hB1
/-- One of the four numbers of a list. -/
theorem c_among4 (g N : Nat) (A : Option Addr) (cap : Nat) (xs : List Int) (gb : Nat) (w : World) (h : Src g N A cap xs w) (hN : N ≤ 900000) (hB : w.heap[gb]? = some (.cells #[.int .i64 1, .int .i64 2, .int .i64 3, .int .i64 4] 2 (0, 0))) (hne : ¬ gb = g) :
    Calls Tryz.prog 58 #[.pointer (some ⟨g, 0, none⟩), .slice (some ⟨gb, 0, none⟩) 4 4] w fun e w' => ∃ r : Int, e = .returned (.int .i64 r) ∧ 1 ≤ r ∧ r ≤ 4 ∧ Src g (N + 1) A cap xs w' ∧ Tou g w w' := by
  have CP := Lib.hid (c_pick g N A cap xs 4 w h hN (by omega))
  have HB := Lib.hid hB
  clear h hB
  go_enter Tryz.func58, Tryz.ntmps58
  go_wp2_with (go_at_call 46; ((with_reducible refine CP.out.mono ?_); rintro e w1 ⟨r, rfl, r0, r1, hS, hT⟩; obtain ⟨j, rfl⟩ := Int.eq_ofNat_of_zero_le r0; have HS := Lib.hid hS; have HT := Lib.hid hT; have hB1 := blk_tou HB.out hT hne; have cj := four_cell hB1 (show j < 4 by omega); clear hS hT hB1))
  exact bodyPost_ret (v := .int .i64 ((j : Int) + 1)) (by simp [results, Tryz.results58, go_sem]) rfl ⟨_, rfl, by omega, by omega, HS.out, HT.out⟩
/-- A drawn move. -/
structure MvDr (x : Int × Int × Int) : Prop where
  ok : okMove x.1 x.2.1 x.2.2 = true
  g : x.2.2 ≤ 40
set_option maxHeartbeats 4000000 in
theorem c_l07Path (g : Nat) (A : Option Addr) (cap : Nat) (xs : List Int) (w : World) (h : Src g 0 A cap xs w) (hA : ∀ ad, A = some ad → xs ≠ [] → ad.block < w.heap.size) :
    Calls Tryz.prog 30 #[.pointer (some ⟨g, 0, none⟩)] w fun e w' => ∃ L v, e = .returned v ∧ L.length ≤ 6 ∧ (∀ x ∈ L, MvDr x) ∧ w'.ownsRow w.heap.size 46 3 v L.length (mvRow L) ∧ Drawn g w.heap.size w w' := by
  have hg : g < w.heap.size := by obtain ⟨_, _, _, _, hb⟩ := h.blk; exact blk_lt hb
  have hb0 : Below w.heap.size w (w.alloc (.cells #[] 46 (0, 0))) := below_alloc (Below.refl _ _) _
  have HS := Lib.hid (h.below hb0)
  have HB : Hid (Drawn g w.heap.size w (w.alloc (.cells #[] 46 (0, 0)))) := ⟨hb0.os, hb0.tape, hb0.output, hb0.size, fun i hi _ => hb0.block i hi⟩
  have HO := Lib.hid (own_empty (base := w.heap.size) (e := 46) (size := 3) (heap_alloc_new w (.cells #[] 46 (0, 0))) (Nat.le_refl _))
  have HA := Lib.hid hA
  have C1 := Lib.hid (fun w' h => c_pick g 0 A cap xs 7 w' h (by omega) (by omega))
  clear h hA hb0
  go_enter Tryz.func30, Tryz.ntmps30
  go_upto_region 2 with fail
  generalize hwa : w.alloc (.cells #[] 46) = wa at *
  clear hwa
  go_wp2_with (go_at_call 46; ((with_reducible refine (C1.out _ HS.out).mono ?_); rintro e w1 ⟨r, rfl, r0, r1, hS, hT⟩; obtain ⟨k0, rfl⟩ := Int.eq_ofNat_of_zero_le r0; have HS := Lib.hid hS; have HO := Lib.hid (own_tou HO.out hT hg); have HB := Lib.hid (HB.out.tou hT); clear hS hT C1))
  go_loopw [4, 3] (fun kv v wr => ∃ (k : Nat) (L : List (Int × Int × Int)) (N : Nat), kv = .int .i64 (k : Int) ∧ L.length + k ≤ 6 ∧ N ≤ 3 * L.length + 1 ∧ Hid (∀ x ∈ L, MvDr x) ∧ Hid (Src g N A cap xs wr) ∧ Hid (wr.ownsRow w.heap.size 46 3 v L.length (mvRow L)) ∧ Hid (Drawn g w.heap.size w wr)) (fun k _ _ => (intOf k).toNat)
  case atStart => exact ⟨k0, [], 1, rfl, by simp; omega, by simp, (fun t ht => by simp at ht), HS, HO, HB⟩
  case round => as_aux_lemma =>
    clear HS HO HB
    obtain ⟨k, L, N, rfl, hk, hN, HL, HS, HO, HB⟩ := hrel
    by_cases hk0 : 0 < k
    · have d1 : decide (0 < (k : Int)) = true := by simp; omega
      have C2 := Lib.hid (fun w' h => c_pick g N A cap xs 3 w' h (by omega) (by omega))
      have C4 := Lib.hid (fun w' h => c_pick g (N + 2) A cap xs 40 w' h (by omega) (by omega))
      have hN9 : N + 1 ≤ 900000 := by omega
      go_upto_region 6 with (go_at_call 46; ((with_reducible refine (C2.out _ HS.out).mono ?_); rintro e w2 ⟨a, rfl, a0, a1, hS, hT⟩; have HS := Lib.hid hS; have HO := Lib.hid (own_tou HO.out hT hg); have HB := Lib.hid (HB.out.tou hT); clear hS hT C2))
      have hz2 := HB.out.size
      have hb2 : Below w2.heap.size w2 (w2.alloc (.cells #[.int .i64 1, .int .i64 2, .int .i64 3, .int .i64 4] 2 (0, 0))) := below_alloc (Below.refl _ _) _
      have hne2 : ¬ w2.heap.size = g := by omega
      have CA := Lib.hid (c_among4 g (N + 1) A cap xs w2.heap.size _ (HS.out.below hb2) hN9 (heap_alloc_new w2 _) hne2)
      have HO2 := Lib.hid (own_below HO.out hb2)
      have HB2 := Lib.hid (HB.out.alloc hz2 (.cells #[.int .i64 1, .int .i64 2, .int .i64 3, .int .i64 4] 2 (0, 0)))
      clear hb2 hne2 HS HO HB
      go_upto_region 7 with (go_at_call 58; ((with_reducible refine CA.out.mono ?_); rintro e w3 ⟨b, rfl, b0, b1, hS, hT⟩; have HS := Lib.hid hS; have HO := Lib.hid (own_tou HO2.out hT hg); have HB := Lib.hid (HB2.out.tou hT); clear hS hT CA HO2 HB2))
      have CM := Lib.hid (fun w => c_sMayMove a b w)
      cases q : mayMove a b
      · as_aux_lemma =>
        rw [q] at CM
        go_wp2_with (first
          | (go_at_call 59; ((with_reducible refine (CM.out _).mono ?_); rintro e w4 ⟨rfl, rfl⟩))
          | (go_at_call 46; ((with_reducible refine (C4.out _ HS.out).mono ?_); rintro e w5 ⟨c, rfl, c0, c1, hS, hT⟩; have HS := Lib.hid hS; have HO := Lib.hid (own_tou HO.out hT hg); have HB := Lib.hid (HB.out.tou hT); clear hS hT C4))
          | (refine wpList_build1 rfl 24 46 (.tmp 32) rfl (#[.int .i8 a, .int .i8 3, .int .i16 (1 + c)]) 3 (.agg #[.int .i8 0, .int .i8 0, .int .i16 0]) rfl Tryz.underlying24 (by kernel_rfl) (by decide) (by decide) (rfl) ?_)
          | (at_builtin; refine ap1 rfl (.tmp 23) (.tmp 33) 24 46 rfl ((.agg #[.int .i8 0, .int .i8 0, .int .i16 0])) 3 4 (w.heap.size) Tryz.underlying24 (by kernel_rfl) rfl (by decide) u3 L.length (mvRow L) [.int .i8 a, .int .i8 3, .int .i16 (1 + c)] rfl rfl (by simp) (rfl) (oneM3 _ _ _) HO.out HB.out.size (by omega) (by omega) ?_; intro g3 d3 w6 hown hg3 hat; have hBB := below_grown (Below.refl (w.heap.size) _) hg3 HO.out (Nat.le_refl _) HB.out.size; have HS := Lib.hid (HS.out.belowM hBB hg HA.out); have HO5 := Lib.hid hown; have HB := Lib.hid (HB.out.thenB hBB); clear hown hat hg3 hBB))
        have hok : okMove a 3 (1 + c) = true := by
          rcases (show a = 0 ∨ a = 1 ∨ a = 2 by omega) with rfl | rfl | rfl <;> (simp [okMove, mayMove, inB]; omega)
        have HK : Hid (∀ x ∈ L ++ [(a, 3, 1 + c)], MvDr x) := fun t ht => by
          rcases List.mem_append.1 ht with h | h
          · exact HL.out t h
          · simp only [List.mem_singleton] at h
            subst h
            exact ⟨hok, by show 1 + c ≤ 40; omega⟩
        go_roundw
        case rel => exact ⟨k - 1, L ++ [(a, 3, 1 + c)], N + 3, by go_num, by simp; omega, by simp; omega, HK, HS, (by rw [Hid, mvRow_snoc, List.length_append, List.length_singleton]; exact HO5.out), HB⟩
        case measure => simp [intOf]; omega
      · as_aux_lemma =>
        rw [q] at CM
        go_wp2_with (first
          | (go_at_call 59; ((with_reducible refine (CM.out _).mono ?_); rintro e w4 ⟨rfl, rfl⟩))
          | (go_at_call 46; ((with_reducible refine (C4.out _ HS.out).mono ?_); rintro e w5 ⟨c, rfl, c0, c1, hS, hT⟩; have HS := Lib.hid hS; have HO := Lib.hid (own_tou HO.out hT hg); have HB := Lib.hid (HB.out.tou hT); clear hS hT C4))
          | (refine wpList_build1 rfl 24 46 (.tmp 32) rfl (#[.int .i8 a, .int .i8 b, .int .i16 (1 + c)]) 3 (.agg #[.int .i8 0, .int .i8 0, .int .i16 0]) rfl Tryz.underlying24 (by kernel_rfl) (by decide) (by decide) (rfl) ?_)
          | (at_builtin; refine ap1 rfl (.tmp 23) (.tmp 33) 24 46 rfl ((.agg #[.int .i8 0, .int .i8 0, .int .i16 0])) 3 4 (w.heap.size) Tryz.underlying24 (by kernel_rfl) rfl (by decide) u3 L.length (mvRow L) [.int .i8 a, .int .i8 b, .int .i16 (1 + c)] rfl rfl (by simp) (rfl) (oneM3 _ _ _) HO.out HB.out.size (by omega) (by omega) ?_; intro g3 d3 w6 hown hg3 hat; have hBB := below_grown (Below.refl (w.heap.size) _) hg3 HO.out (Nat.le_refl _) HB.out.size; have HS := Lib.hid (HS.out.belowM hBB hg HA.out); have HO5 := Lib.hid hown; have HB := Lib.hid (HB.out.thenB hBB); clear hown hat hg3 hBB))
        have hok : okMove a b (1 + c) = true := by
          rw [okMove, q]; simp [inB]; omega
        have HK : Hid (∀ x ∈ L ++ [(a, b, 1 + c)], MvDr x) := fun t ht => by
          rcases List.mem_append.1 ht with h | h
          · exact HL.out t h
          · simp only [List.mem_singleton] at h
            subst h
            exact ⟨hok, by show 1 + c ≤ 40; omega⟩
        go_roundw
        case rel => exact ⟨k - 1, L ++ [(a, b, 1 + c)], N + 3, by go_num, by simp; omega, by simp; omega, HK, HS, (by rw [Hid, mvRow_snoc, List.length_append, List.length_singleton]; exact HO5.out), HB⟩
        case measure => simp [intOf]; omega
    · obtain rfl : k = 0 := by omega
      have d1 : decide (0 < ((0 : Nat) : Int)) = false := by simp
      go_wp2
      go_ret
      exact ⟨L, _, rfl, by omega, HL.out, HO.out, HB.out⟩
theorem c_P6Moves (A : Option Addr) (cap : Nat) (xs : List Int) (w : World) (h : BytesAt w A xs) (hA : ∀ ad, A = some ad → xs ≠ [] → ad.block < w.heap.size) :
    Calls Tryz.prog 5 #[.slice A xs.length cap] w fun e w' => ∃ L v, e = .returned v ∧ L.length ≤ 6 ∧ (∀ x ∈ L, MvDr x) ∧ w'.ownsRow w.heap.size 46 3 v L.length (mvRow L) ∧ Below w.heap.size w w' := by
  have CF := Lib.hid (c_l00From A cap xs w h hA)
  have HA := Lib.hid hA
  clear h hA
  go_enter Tryz.func5, Tryz.ntmps5
  go_wp2_with (first
    | (go_at_call 31; ((with_reducible refine CF.out.mono ?_); rintro e w1 ⟨rfl, hS, hb⟩; have HB := Lib.hid hb; have C2 := Lib.hid (c_l07Path w.heap.size A cap xs w1 hS (fun ad e en => Nat.lt_of_lt_of_le (HA.out ad e en) hb.size)); clear hS hb))
    | (go_at_call 30; ((with_reducible refine C2.out.mono ?_); rintro e w2 ⟨L, v, rfl, hl, hL, hO, hD⟩; have HL := Lib.hid hL; have HO := Lib.hid (own_mono hO HB.out.size); have HB := Lib.hid (HB.out.trans (hD.belowM (Nat.le_refl _) HB.out.size)); clear hL hO hD)))
  go_ret
  exact ⟨L, v, rfl, hl, HL.out, HO.out, HB.out⟩
theorem c_P6Pick (A : Option Addr) (cap : Nat) (xs : List Int) (n : Int) (w : World) (h : BytesAt w A xs) (hA : ∀ ad, A = some ad → xs ≠ [] → ad.block < w.heap.size) (hn : 1 ≤ n ∧ n ≤ 200) :
    Calls Tryz.prog 22 #[.slice A xs.length cap, .int .i64 n] w fun e w' => ∃ r : Int, e = .returned (.int .i64 r) ∧ 0 ≤ r ∧ r < n ∧ Below w.heap.size w w' := by
  have CF := Lib.hid (c_l00From A cap xs w h hA)
  clear h hA
  go_enter Tryz.func22, Tryz.ntmps22
  go_wp2_with (first
    | (go_at_call 31; ((with_reducible refine CF.out.mono ?_); rintro e w1 ⟨rfl, hS, hb⟩; have HB := Lib.hid hb; have C2 := Lib.hid (c_pick w.heap.size 0 A cap xs n w1 hS (by omega) hn); clear hS hb))
    | (go_at_call 46; ((with_reducible refine C2.out.mono ?_); rintro e w2 ⟨r, rfl, r0, r1, hS, hT⟩; have HB := Lib.hid (HB.out.trans (hT.below (Nat.le_refl _))); clear hS hT)))
  go_ret
  exact ⟨r, rfl, r0, r1, HB.out⟩
theorem c_f6big (A : Option Addr) (n c : Nat) (w : World) :
    Calls Tryz.prog 4 #[.slice A n c] w fun e w' => e = .returned (.bool (decide ((4096 : Int) < (n : Int)))) ∧ w = w' := by
  go_enter Tryz.func4, Tryz.ntmps4
  go_wp2
  exact bodyPost_ret (v := .bool (decide ((4096 : Int) < (n : Int)))) (by simp [results, Tryz.results4, go_sem]) rfl ⟨rfl, rfl⟩
/-! ### Lists compared -/
theorem eqMv (a b c : Int) (w : World) : (Op.equalIn 10000 46 (.agg #[.int .i8 a, .int .i8 b, .int .i16 c]) (.agg #[.int .i8 a, .int .i8 b, .int .i16 c])).run Tryz.prog w = .ok true w := by
  have hf : (Tryz.prog.fieldsOf 46).toList.map (fun f => (f.name, f.type, f.offset)) = [("From", 43, 0), ("To", 43, 1), ("Grams", 44, 2)] := by kernel_rfl
  rw [run_equalIn_struct w 9999 46 _ _ (by kernel_rfl) (by kernel_rfl)]
  generalize (Tryz.prog.fieldsOf 46).toList = fs at *
  obtain ⟨f0, f1, f2, rfl⟩ : ∃ f0 f1 f2, fs = [f0, f1, f2] := by
    have hl : fs.length = 3 := by have := congrArg List.length hf; simpa using this
    match fs, hl with
    | [f0, f1, f2], _ => exact ⟨f0, f1, f2, rfl⟩
  simp only [List.map_cons, List.map_nil, List.cons.injEq, Prod.mk.injEq, and_true] at hf
  obtain ⟨⟨n0, t0, o0⟩, ⟨n1, t1, o1⟩, n2, t2, o2⟩ := hf
  simp [Op.eqFields, n0, t0, o0, n1, t1, o1, n2, t2, o2, part, go_sem, Tryz.underlying44, Tryz.underlying43, run_underlying Tryz.underlying44, run_underlying Tryz.underlying43]
theorem eqPl (p : List Int) (hp : p.length = 5) (w : World) : (Op.equalIn 10000 30 (.agg (nums .i32 p).toArray) (.agg (nums .i32 p).toArray)).run Tryz.prog w = .ok true w := by
  rw [run_equalIn_nums (P := Tryz.prog) w 9998 30 21 5 .i32 Tryz.underlying30 Tryz.underlying21 (by kernel_rfl) p p hp hp]
  simp
set_option maxHeartbeats 1000000 in
theorem c_sameMoves (v v' : Value) (base base' : Nat) (L : List (Int × Int × Int)) (w : World) (h : w.ownsRow base 46 3 v L.length (mvRow L)) (h' : w.ownsRow base' 46 3 v' L.length (mvRow L)) (hn : L.length ≤ 1048576) :
    Calls Tryz.prog 17 #[v, v'] w fun e w' => e = .returned (.bool true) ∧ Below w.heap.size w w' := by
  obtain ⟨A, c, rfl, _⟩ := own_form h
  obtain ⟨B, c', rfl, _⟩ := own_form h'
  have H := Lib.hid (movesAt_of (own_rd h))
  have H' := Lib.hid (movesAt_of (own_rd h'))
  clear h h'
  generalize hm : L.length = n at *
  have d0 : ((n : Int) != (n : Int)) = false := by simp
  go_enter Tryz.func17, Tryz.ntmps17
  go_wp2
  go_loopw [5] (fun i wr => ∃ k : Nat, k ≤ n ∧ i = .int .i64 k ∧ Hid (Below w.heap.size w wr)) (fun i _ => n - (intOf i).toNat)
  case atStart => exact ⟨0, by omega, rfl, Below.refl _ _⟩
  case round =>
    obtain ⟨k, hk, rfl, hB⟩ := hrel
    by_cases hlt : k < n
    · have d1 : decide ((k : Int) < (n : Int)) = true := by simp; omega
      obtain ⟨ad, rfl, c0, c1, c2⟩ := (H.out.below hB.out).at_ k hlt
      obtain ⟨ad', rfl, e0, e1, e2⟩ := (H'.out.below hB.out).at_ k hlt
      have k0 : (0 : Int) ≤ (k : Int) := by omega
      have k1 : (k : Int) < (n : Int) := by omega
      have qe := fun w => eqMv (L.getD k (0, 0, 0)).1 (L.getD k (0, 0, 0)).2.1 (L.getD k (0, 0, 0)).2.2 w
      go_wp2
      go_quiet (fail)
      go_wp2
      go_roundw
      case rel => exact ⟨k + 1, by omega, by go_num, below_drewN hB.out _⟩
      case measure => simp [intOf]; omega
    · obtain rfl : k = n := by omega
      have d1 : decide ((k : Int) < (k : Int)) = false := by simp
      go_wp2
      go_ret
      exact ⟨rfl, hB.out⟩
theorem c_sameNumbers (v v' : Value) (base base' n : Nat) (zs : List Int) (w : World) (h : w.ownsRow base 2 1 v n (nums .i64 zs)) (h' : w.ownsRow base' 2 1 v' n (nums .i64 zs)) (hn : n ≤ 1048576) :
    Calls Tryz.prog 28 #[v, v'] w fun e w' => e = .returned (.bool true) ∧ Below w.heap.size w w' := by
  obtain ⟨A, c, rfl, _⟩ := own_form h
  obtain ⟨B, c', rfl, _⟩ := own_form h'
  have C := Lib.hid (c_l00Same A B n c c' zs w (own_rd h) (own_rd h') (by have := h.1; simp [nums] at this; omega) hn)
  clear h h'
  go_enter Tryz.func28, Tryz.ntmps28
  go_wp2_with (go_at_call 57; ((with_reducible refine C.out.mono ?_); rintro e w1 ⟨rfl, hb⟩))
  go_ret
  exact ⟨rfl, hb⟩
set_option maxHeartbeats 1000000 in
theorem c_samePlaces (v v' : Value) (base base' n : Nat) (P : Nat → List Int) (w : World) (h : w.ownsRow base 30 5 v n (rows5 P n)) (h' : w.ownsRow base' 30 5 v' n (rows5 P n)) (hP : ∀ k, k < n → (P (k + 1)).length = 5) (hn : n ≤ 1048576) :
    Calls Tryz.prog 19 #[v, v'] w fun e w' => e = .returned (.bool true) ∧ Below w.heap.size w w' := by
  obtain ⟨A, c, rfl, hA⟩ := own_form h
  obtain ⟨B, c', rfl, hB⟩ := own_form h'
  have H := Lib.hid h
  have H' := Lib.hid h'
  have HP := Lib.hid hP
  clear h h' hP
  have d0 : ((n : Int) != (n : Int)) = false := by simp
  go_enter Tryz.func19, Tryz.ntmps19
  go_wp2
  go_loopw [5] (fun i wr => ∃ k : Nat, k ≤ n ∧ i = .int .i64 k ∧ Hid (Below w.heap.size w wr)) (fun i _ => n - (intOf i).toNat)
  case atStart => exact ⟨0, by omega, rfl, Below.refl _ _⟩
  case round =>
    obtain ⟨k, hk, rfl, hW⟩ := hrel
    by_cases hlt : k < n
    · have d1 : decide ((k : Int) < (n : Int)) = true := by simp; omega
      obtain ⟨g, rfl, hg⟩ := hA (by omega)
      obtain ⟨g', rfl, hg'⟩ := hB (by omega)
      have k1 : (0 : Int) ≤ (k : Int) := by omega
      have k2 : (k : Int) < (n : Int) := by omega
      have O := Lib.hid (own_below H.out hW.out)
      have O' := Lib.hid (own_below H'.out hW.out)
      have a0 := (own_get O.out (rows5_get0 HP.out hlt)).1
      have a1 := (own_get O.out (rows5_get HP.out hlt (j := 1) (by omega))).1
      have a2 := (own_get O.out (rows5_get HP.out hlt (j := 2) (by omega))).1
      have a3 := (own_get O.out (rows5_get HP.out hlt (j := 3) (by omega))).1
      have a4 := (own_get O.out (rows5_get HP.out hlt (j := 4) (by omega))).1
      have b0 := (own_get O'.out (rows5_get0 HP.out hlt)).1
      have b1 := (own_get O'.out (rows5_get HP.out hlt (j := 1) (by omega))).1
      have b2 := (own_get O'.out (rows5_get HP.out hlt (j := 2) (by omega))).1
      have b3 := (own_get O'.out (rows5_get HP.out hlt (j := 3) (by omega))).1
      have b4 := (own_get O'.out (rows5_get HP.out hlt (j := 4) (by omega))).1
      have qe : ∀ w, (Op.equalIn 10000 30 (.agg #[.int .i32 (gi (P (k + 1)) 0), .int .i32 (gi (P (k + 1)) 1), .int .i32 (gi (P (k + 1)) 2), .int .i32 (gi (P (k + 1)) 3), .int .i32 (gi (P (k + 1)) 4)]) (.agg #[.int .i32 (gi (P (k + 1)) 0), .int .i32 (gi (P (k + 1)) 1), .int .i32 (gi (P (k + 1)) 2), .int .i32 (gi (P (k + 1)) 3), .int .i32 (gi (P (k + 1)) 4)])).run Tryz.prog w = .ok true w := fun w => eqPl [gi (P (k + 1)) 0, gi (P (k + 1)) 1, gi (P (k + 1)) 2, gi (P (k + 1)) 3, gi (P (k + 1)) 4] rfl w
      clear O O'
      generalize gi (P (k + 1)) 0 = q0 at *
      generalize gi (P (k + 1)) 1 = q1 at *
      generalize gi (P (k + 1)) 2 = q2 at *
      generalize gi (P (k + 1)) 3 = q3 at *
      generalize gi (P (k + 1)) 4 = q4 at *
      go_wp2
      go_quiet (fail)
      go_wp2
      go_roundw
      case rel => exact ⟨k + 1, by omega, by go_num, below_drewN hW.out _⟩
      case measure => simp [intOf]; omega
    · obtain rfl : k = n := by omega
      have d1 : decide ((k : Int) < (k : Int)) = false := by simp
      go_wp2
      go_ret
      exact ⟨rfl, hW.out⟩
end Go.Proofs.YtjhifpidbobmaaaGreatDoor
/- A text split at a byte: plain lists. -/
namespace Go.Proofs.YtjhifpidbobmaaaGreatDoor
set_option linter.unusedVariables false
set_option linter.unusedSimpArgs false

section
variable (by_ : UInt8)
def splitStep (st : List (List UInt8) × List UInt8) (c : UInt8) : List (List UInt8) × List UInt8 := if c = by_ then (st.1 ++ [st.2], []) else (st.1, st.2 ++ [c])
/-- The whole parts, and what stands behind the last such byte. -/
def splitS (l : List UInt8) : List (List UInt8) × List UInt8 := l.foldl (splitStep by_) ([], [])
def splitL (l : List UInt8) : List (List UInt8) := (splitS by_ l).1 ++ [(splitS by_ l).2]
def joinD (d : List (List UInt8)) : List UInt8 := d.flatMap (· ++ [by_])
variable {by_}
theorem splitS_snoc (l : List UInt8) (c : UInt8) : splitS by_ (l ++ [c]) = splitStep by_ (splitS by_ l) c := by simp [splitS]
theorem splitS_yes {l : List UInt8} {c : UInt8} (h : c = by_) : splitS by_ (l ++ [c]) = ((splitS by_ l).1 ++ [(splitS by_ l).2], []) := by rw [splitS_snoc, splitStep, if_pos h]
theorem splitS_no {l : List UInt8} {c : UInt8} (h : ¬ c = by_) : splitS by_ (l ++ [c]) = ((splitS by_ l).1, (splitS by_ l).2 ++ [c]) := by rw [splitS_snoc, splitStep, if_neg h]
/-- d and c are the parts of l. -/
structure Parts (by_ : UInt8) (l : List UInt8) (d : List (List UInt8)) (c : List UInt8) : Prop where
  eq : l = joinD by_ d ++ c
  d : ∀ x ∈ d, by_ ∉ x
  c : by_ ∉ c
theorem parts_foldl : ∀ (l pre : List UInt8) (d : List (List UInt8)) (c : List UInt8), Parts by_ pre d c → Parts by_ (pre ++ l) (l.foldl (splitStep by_) (d, c)).1 (l.foldl (splitStep by_) (d, c)).2
  | [], pre, d, c, h => by simpa using h
  | a :: l, pre, d, c, h => by
    have e : pre ++ a :: l = (pre ++ [a]) ++ l := by simp
    rw [e, List.foldl_cons]
    by_cases ha : a = by_
    · have : splitStep by_ (d, c) a = (d ++ [c], []) := by rw [splitStep, if_pos ha]
      rw [this]
      refine parts_foldl l (pre ++ [a]) _ _ ⟨?_, ?_, by simp⟩
      · rw [h.eq, ha]; simp [joinD]
      · intro x hx
        rcases List.mem_append.1 hx with hx | hx
        · exact h.d x hx
        · obtain rfl : x = c := by simpa using hx
          exact h.c
    · have : splitStep by_ (d, c) a = (d, c ++ [a]) := by rw [splitStep, if_neg ha]
      rw [this]
      refine parts_foldl l (pre ++ [a]) _ _ ⟨?_, h.d, ?_⟩
      · rw [h.eq]; simp
      · intro hm
        rcases List.mem_append.1 hm with hm | hm
        · exact h.c hm
        · exact ha (show a = by_ from (List.mem_singleton.1 hm).symm)
theorem splitS_parts (l : List UInt8) : Parts by_ l (splitS by_ l).1 (splitS by_ l).2 := by
  have := parts_foldl (by_ := by_) l [] [] [] ⟨rfl, by simp, by simp⟩
  simpa [splitS] using this
theorem parts_head {x y r s : List UInt8} (hx : by_ ∉ x) (hy : by_ ∉ y) (h : x ++ by_ :: r = y ++ by_ :: s) : x = y ∧ r = s := by
  induction x generalizing y with
  | nil =>
    cases y with
    | nil => simpa using h
    | cons b y =>
      simp only [List.nil_append, List.cons_append, List.cons.injEq] at h
      exact (hy (by simp [h.1])).elim
  | cons a x ih =>
    cases y with
    | nil =>
      simp only [List.nil_append, List.cons_append, List.cons.injEq] at h
      exact (hx (by simp [h.1])).elim
    | cons b y =>
      simp only [List.cons_append, List.cons.injEq] at h
      obtain ⟨e1, e2⟩ := ih (fun hm => hx (by simp [hm])) (fun hm => hy (by simp [hm])) h.2
      exact ⟨by rw [h.1, e1], e2⟩
theorem parts_last {x r c : List UInt8} (hc : by_ ∉ c) (h : x ++ by_ :: r = c) : False := hc (by rw [← h]; simp)
theorem parts_unique : ∀ {d d' : List (List UInt8)} {l c c' : List UInt8}, Parts by_ l d c → Parts by_ l d' c' → d = d' ∧ c = c'
  | [], [], l, c, c', h, h' => by
    have := h.eq.symm.trans h'.eq
    simpa [joinD] using this
  | [], y :: d', l, c, c', h, h' => by
    exfalso
    have := h.eq.symm.trans h'.eq
    simp only [joinD, List.flatMap_nil, List.nil_append, List.flatMap_cons, List.append_assoc, List.cons_append] at this
    exact parts_last h.c this.symm
  | x :: d, [], l, c, c', h, h' => by
    exfalso
    have := h.eq.symm.trans h'.eq
    simp only [joinD, List.flatMap_nil, List.nil_append, List.flatMap_cons, List.append_assoc, List.cons_append] at this
    exact parts_last h'.c this
  | x :: d, y :: d', l, c, c', h, h' => by
    have e := h.eq.symm.trans h'.eq
    simp only [joinD, List.flatMap_cons, List.append_assoc, List.cons_append, List.nil_append] at e
    obtain ⟨e1, e2⟩ := parts_head (h.d x (by simp)) (h'.d y (by simp)) e
    obtain ⟨e3, e4⟩ := parts_unique (d := d) (d' := d') (l := joinD by_ d ++ c) (c := c) (c' := c') ⟨rfl, fun z hz => h.d z (by simp [hz]), h.c⟩ ⟨e2, fun z hz => h'.d z (by simp [hz]), h'.c⟩
    exact ⟨by rw [e1, e3], e4⟩
theorem splitS_of {l : List UInt8} {d : List (List UInt8)} {c : List UInt8} (h : Parts by_ l d c) : splitS by_ l = (d, c) := by
  obtain ⟨e1, e2⟩ := parts_unique (splitS_parts l) h
  exact Prod.ext e1 e2
end
end Go.Proofs.YtjhifpidbobmaaaGreatDoor
