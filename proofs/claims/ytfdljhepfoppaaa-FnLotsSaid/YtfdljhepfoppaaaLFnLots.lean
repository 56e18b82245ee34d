/- The law on lots (printed by mklot.py). -/
import Derived.Test.YtfdljhepfoppaaaLotLay
import Derived.Test.YtfdljhepfoppaaaPlanSpec
import Derived.Test.YtfdljhepfoppaaaFewSpec
import Derived.Test.YtfdljhepfoppaaaWasteSpec
import Derived.Test.YtfdljhepfoppaaaLotLaw
import Derived.Test.YtfdljhepfoppaaaOrderLaw
import Derived.Test.YtfdljhepfoppaaaA2Base
import Derived.BigRegion
import Derived.StillTailTactics
import Derived.Deep.DeepCutAuto
import Derived.Deep.RegionHeld3
namespace Go.Proofs.Ytfdljhepfoppaaa
open Go.RowKit
set_option linter.unusedVariables false
set_option linter.unusedSimpArgs false
set_option maxRecDepth 100000

set_option maxHeartbeats 20000000 in
theorem walk_FnLots (W : World) (A0 : Option Addr) (cap0 : Nat) (a0 : List Int) (w0 : ∀ z ∈ a0, (Lit.int .u8 z).wf = true) (r0 : RdRow W A0 (nums .u8 a0)) (s0 : a0.length * 1 ≤ 140737488351232) (m0 : a0.length ≤ maxLen) (A1 : Option Addr) (cap1 : Nat) (a1 : List Int) (w1 : ∀ z ∈ a1, (Lit.int .u8 z).wf = true) (r1 : RdRow W A1 (nums .u8 a1)) (s1 : a1.length * 1 ≤ 140737488351232) (m1 : a1.length ≤ maxLen) :
    Calls Try.prog 3 #[.slice A0 a0.length cap0, .slice A1 a1.length cap1] W fun e w' => e = .returned (.bool true) ∧ Below W.heap.size W w' := by
  by_cases h0 : a0.length ≤ 4096
  · have d0 : decide ((4096 : Int) < (a0.length : Int)) = false := by simp; omega
    have CB0 := Lib.hid (fun w => d0 ▸ c_f6big A0 a0.length cap0 w)
    by_cases h1 : a1.length ≤ 4096
    · have d1 : decide ((4096 : Int) < (a1.length : Int)) = false := by simp; omega
      have CB1 := Lib.hid (fun w => d1 ▸ c_f6big A1 a1.length cap1 w)
      have hB0 : BytesAt W A0 a0 := ⟨r0, bytes_bd w0, by omega⟩
      have hB1 : BytesAt W A1 a1 := ⟨r1, bytes_bd w1, by omega⟩
      have CP := Lib.hid (c_P6Lots A0 cap0 a0 W hB0 hB0.lt)
      have CQ := Lib.hid (fun w (hb : Below W.heap.size W w) => c_P6Orders A1 cap1 a1 w (hB1.below hb) (hB1.below hb).lt)
      have CK1 := Lib.hid (fun w (hb : Below W.heap.size W w) => c_P6Pick A1 cap1 a1 40 w (hB1.below hb) (hB1.below hb).lt (by omega))
      clear hB0 hB1 w0 r0 s0 m0 w1 r1 s1 m1 d0 d1
      go_enter Try.func3, Try.ntmps3
      go_upto_region 4 with (first
        | (go_at_call 4; ((with_reducible refine (CB0.out _).mono ?_); rintro e w1 ⟨rfl, rfl⟩))
        | (go_at_call 4; ((with_reducible refine (CB1.out _).mono ?_); rintro e w1 ⟨rfl, rfl⟩))
        | (go_at_call 5; ((refine CP.out.mono ?_); rintro e w2 ⟨L, v, rfl, hl, hLD, hO, hb⟩; have HO := Lib.hid hO; have HB := Lib.hid hb; have HLD := Lib.hid hLD; clear hLD hO hb)))
      obtain ⟨A5, c5, rfl, hA5⟩ := own_form HO.out
      have HA5 := Lib.hid hA5
      have HL : Hid (RL W [⟨46, 2, .slice A5 L.length c5, L.length, ltRow L⟩] w2) := ⟨HB.out, fun x hx => by simp at hx; subst hx; exact HO.out⟩
      clear CP HO HB hA5 CB0 CB1
      go_upto_region 5 with (go_at_call 6; ((with_reducible refine (CQ.out _ HL.out.b).mono ?_); rintro e w3 ⟨O, v, rfl, ho, hOD, hO, hb⟩; have HOD := Lib.hid hOD; replace hO := own_mono hO HL.out.b.size; replace HL := Lib.hid ((HL.out.below hb).addR ⟨45, 2, v, O.length, ltRow O⟩ hO); clear hOD hO hb))
      obtain ⟨A6, c6, rfl, hA6⟩ := own_form (HL.out.row (t := 45) (s := 2) (v := v) (n := O.length) (xs := ltRow O) (by simp only [List.mem_cons, true_or, or_true]))
      have HA6 := Lib.hid hA6
      clear hA6 CQ
      go_upto_region 6 with (go_at_call 7; ((with_reducible refine (CK1.out _ HL.out.b).mono ?_); rintro e w4 ⟨keep, rfl, hk0, hk1, hb⟩; replace HL := Lib.hid (HL.out.below hb); clear hb))
      obtain ⟨F1, F2, P3, P4, P5, R1, R2, R3, R4, R5, many, least, low, cd, hF⟩ := ltF_of hl HLD.out ho HOD.out ⟨hk0, hk1⟩
      have HF := Lib.hid hF
      have hnl : L.length ≤ 1048576 := by omega
      have hno : O.length ≤ 1048576 := by omega
      have hg : ∀ j, j < L.length → -32768 ≤ lG L j ∧ lG L j ≤ 32767 := fun j _ => by have := hF.lb j; omega
      have hgo : ∀ j, j < O.length → -32768 ≤ lG O j ∧ lG O j ≤ 32767 := fun j _ => by have := hF.ob j; omega
      have HNL := Lib.hid hnl
      have HNO := Lib.hid hno
      have HG := Lib.hid hg
      have HGO := Lib.hid hgo
      have C8 : Hid (∀ w, LotsAt w A5 L.length (lS L) (lG L) → LotsAt w A6 O.length (lS O) (lG O) → Calls Try.prog 8 #[.slice A5 L.length c5, .slice A6 O.length c6] w fun e w' => ∃ v, e = .returned (.tuple #[v, .int .i64 0]) ∧ w'.ownsRow w.heap.size 2 1 v O.length (nums .i64 F1) ∧ Below w.heap.size w w') := fun w h1 h2 => by
        have := c_iFirstFit A5 A6 L.length O.length c5 c6 (lS L) (lG L) (lS O) (lG O) w h1 h2 hnl hno hg hgo
        rw [hF.fit1] at this
        dsimp only at this
        rw [hF.p1.len] at this
        exact this
      have C10 : Hid (∀ w, LotsAt w A5 L.length (lS L) (lG L) → LotsAt w A6 O.length (lS O) (lG O) → Calls Try.prog 9 #[.slice A5 L.length c5, .slice A6 O.length c6] w fun e w' => ∃ v, e = .returned (.tuple #[v, .int .i64 0]) ∧ w'.ownsRow w.heap.size 2 1 v O.length (nums .i64 F1) ∧ Below w.heap.size w w') := fun w h1 h2 => by
        have := c_sFirstFit A5 A6 L.length O.length c5 c6 (lS L) (lG L) (lS O) (lG O) w h1 h2 hnl hno hg hgo
        rw [hF.fit1] at this
        dsimp only at this
        rw [hF.p1.len] at this
        exact this
      have C12 : Hid (∀ w, LotsAt w A5 L.length (lS L) (lG L) → LotsAt w A6 O.length (lS O) (lG O) → Calls Try.prog 10 #[.slice A5 L.length c5, .slice A6 O.length c6] w fun e w' => ∃ v, e = .returned (.tuple #[v, .int .i64 0]) ∧ w'.ownsRow w.heap.size 2 1 v O.length (nums .i64 F2) ∧ Below w.heap.size w w') := fun w h1 h2 => by
        have := c_iBestFit A5 A6 L.length O.length c5 c6 (lS L) (lG L) (lS O) (lG O) w h1 h2 hnl hno hg hgo
        rw [hF.fit2] at this
        dsimp only at this
        rw [hF.p2.len] at this
        exact this
      have C14 : Hid (∀ w, LotsAt w A5 L.length (lS L) (lG L) → LotsAt w A6 O.length (lS O) (lG O) → Calls Try.prog 11 #[.slice A5 L.length c5, .slice A6 O.length c6] w fun e w' => ∃ v, e = .returned (.tuple #[v, .int .i64 0]) ∧ w'.ownsRow w.heap.size 2 1 v O.length (nums .i64 F2) ∧ Below w.heap.size w w') := fun w h1 h2 => by
        have := c_sBestFit A5 A6 L.length O.length c5 c6 (lS L) (lG L) (lS O) (lG O) w h1 h2 hnl hno hg hgo
        rw [hF.fit2] at this
        dsimp only at this
        rw [hF.p2.len] at this
        exact this
      have C16 : Hid (∀ w, LotsAt w A5 L.length (lS L) (lG L) → LotsAt w A6 O.length (lS O) (lG O) → Calls Try.prog 12 #[.slice A5 L.length c5, .slice A6 O.length c6] w fun e w' => ∃ v, e = .returned (.tuple #[v, .int .i64 many, .int .i64 0]) ∧ w'.ownsRow w.heap.size 2 1 v O.length (nums .i64 P3) ∧ Below w.heap.size w w') := fun w h1 h2 => by
        have := c_iMostOrders A5 A6 L.length O.length c5 c6 (lS L) (lG L) (lS O) (lG O) w h1 h2 hnl hno hg hgo
        rw [hF.most] at this
        dsimp only at this
        rw [hF.p3.1.len] at this
        exact this
      have C19 : Hid (∀ w, LotsAt w A5 L.length (lS L) (lG L) → LotsAt w A6 O.length (lS O) (lG O) → Calls Try.prog 13 #[.slice A5 L.length c5, .slice A6 O.length c6] w fun e w' => ∃ v, e = .returned (.tuple #[v, .int .i64 many, .int .i64 0]) ∧ w'.ownsRow w.heap.size 2 1 v O.length (nums .i64 P3) ∧ Below w.heap.size w w') := fun w h1 h2 => by
        have := c_sMostOrders A5 A6 L.length O.length c5 c6 (lS L) (lG L) (lS O) (lG O) w h1 h2 hnl hno hg hgo
        rw [hF.most] at this
        dsimp only at this
        rw [hF.p3.1.len] at this
        exact this
      have C22 : Hid (∀ w, LotsAt w A5 L.length (lS L) (lG L) → LotsAt w A6 O.length (lS O) (lG O) → Calls Try.prog 14 #[.slice A5 L.length c5, .slice A6 O.length c6] w fun e w' => ∃ v, e = .returned (.tuple #[v, .int .i64 least, .int .i64 cd]) ∧ w'.ownsRow w.heap.size 2 1 v P4.length (nums .i64 P4) ∧ Below w.heap.size w w') := fun w h1 h2 => by
        have := c_iFewestLots A5 A6 L.length O.length c5 c6 (lS L) (lG L) (lS O) (lG O) w h1 h2 hnl hno hg hgo
        rw [hF.few] at this
        exact this
      have C25 : Hid (∀ w, LotsAt w A5 L.length (lS L) (lG L) → LotsAt w A6 O.length (lS O) (lG O) → Calls Try.prog 15 #[.slice A5 L.length c5, .slice A6 O.length c6] w fun e w' => ∃ v, e = .returned (.tuple #[v, .int .i64 least, .int .i64 cd]) ∧ w'.ownsRow w.heap.size 2 1 v P4.length (nums .i64 P4) ∧ Below w.heap.size w w') := fun w h1 h2 => by
        have := c_sFewestLots A5 A6 L.length O.length c5 c6 (lS L) (lG L) (lS O) (lG O) w h1 h2 hnl hno hg hgo
        rw [hF.few] at this
        exact this
      have C28 : Hid (∀ w, LotsAt w A5 L.length (lS L) (lG L) → LotsAt w A6 O.length (lS O) (lG O) → Calls Try.prog 16 #[.slice A5 L.length c5, .slice A6 O.length c6, .int .i64 keep] w fun e w' => ∃ v, e = .returned (.tuple #[v, .int .i64 low, .int .i64 cd]) ∧ w'.ownsRow w.heap.size 2 1 v P5.length (nums .i64 P5) ∧ Below w.heap.size w w') := fun w h1 h2 => by
        have := c_iLeastWaste A5 A6 L.length O.length c5 c6 keep (lS L) (lG L) (lS O) (lG O) w h1 h2 hnl hno hg hgo
        rw [hF.waste] at this
        exact this
      have C31 : Hid (∀ w, LotsAt w A5 L.length (lS L) (lG L) → LotsAt w A6 O.length (lS O) (lG O) → Calls Try.prog 17 #[.slice A5 L.length c5, .slice A6 O.length c6, .int .i64 keep] w fun e w' => ∃ v, e = .returned (.tuple #[v, .int .i64 low, .int .i64 cd]) ∧ w'.ownsRow w.heap.size 2 1 v P5.length (nums .i64 P5) ∧ Below w.heap.size w w') := fun w h1 h2 => by
        have := c_sLeastWaste A5 A6 L.length O.length c5 c6 keep (lS L) (lG L) (lS O) (lG O) w h1 h2 hnl hno hg hgo
        rw [hF.waste] at this
        exact this
      have CV5 := Lib.hid (fun w (h : LotsAt w A5 L.length (lS L) (lG L)) => (show (allB L.length (fun j => okLot (lS L j) (lG L j)) && decide (L.length ≤ 6)) = true from hF.lok) ▸ c_iValidLots A5 L.length c5 (lS L) (lG L) w h hnl hg)
      have CV6 := Lib.hid (fun w (h : LotsAt w A6 O.length (lS O) (lG O)) => (show (allB O.length (fun j => okOrder (lS O j) (lG O j)) && decide (O.length ≤ 7)) = true from hF.ook) ▸ c_iValidOrders A6 O.length c6 (lS O) (lG O) w h hno hgo)
      clear hF hnl hno hg hgo HLD HOD CK1
      go_upto_region 7 with (first
        | (go_at_call 8; ((with_reducible refine (C8.out _ (HL.out.lots (T := 46) (A := A5) (c := c5) (L := L) (by simp only [List.mem_cons, true_or, or_true])) (HL.out.lots (T := 45) (A := A6) (c := c6) (L := O) (by simp only [List.mem_cons, true_or, or_true]))).mono ?_); rintro e w8 ⟨v8, rfl, hO, hb⟩; replace hO := own_mono hO HL.out.b.size; replace HL := Lib.hid ((HL.out.below hb).addR ⟨2, 1, v8, O.length, nums .i64 F1⟩ hO); clear hO hb)))
      go_upto_region 8 with (first
        | (go_at_call 9; ((with_reducible refine (C10.out _ (HL.out.lots (T := 46) (A := A5) (c := c5) (L := L) (by simp only [List.mem_cons, true_or, or_true])) (HL.out.lots (T := 45) (A := A6) (c := c6) (L := O) (by simp only [List.mem_cons, true_or, or_true]))).mono ?_); rintro e w10 ⟨v10, rfl, hO, hb⟩; replace hO := own_mono hO HL.out.b.size; replace HL := Lib.hid ((HL.out.below hb).addR ⟨2, 1, v10, O.length, nums .i64 F1⟩ hO); clear hO hb)))
      go_upto_region 9 with (first
        | (go_at_call 10; ((with_reducible refine (C12.out _ (HL.out.lots (T := 46) (A := A5) (c := c5) (L := L) (by simp only [List.mem_cons, true_or, or_true])) (HL.out.lots (T := 45) (A := A6) (c := c6) (L := O) (by simp only [List.mem_cons, true_or, or_true]))).mono ?_); rintro e w12 ⟨v12, rfl, hO, hb⟩; replace hO := own_mono hO HL.out.b.size; replace HL := Lib.hid ((HL.out.below hb).addR ⟨2, 1, v12, O.length, nums .i64 F2⟩ hO); clear hO hb)))
      go_upto_region 10 with (first
        | (go_at_call 11; ((with_reducible refine (C14.out _ (HL.out.lots (T := 46) (A := A5) (c := c5) (L := L) (by simp only [List.mem_cons, true_or, or_true])) (HL.out.lots (T := 45) (A := A6) (c := c6) (L := O) (by simp only [List.mem_cons, true_or, or_true]))).mono ?_); rintro e w14 ⟨v14, rfl, hO, hb⟩; replace hO := own_mono hO HL.out.b.size; replace HL := Lib.hid ((HL.out.below hb).addR ⟨2, 1, v14, O.length, nums .i64 F2⟩ hO); clear hO hb)))
      go_upto_region 11 with (first
        | (go_at_call 12; ((with_reducible refine (C16.out _ (HL.out.lots (T := 46) (A := A5) (c := c5) (L := L) (by simp only [List.mem_cons, true_or, or_true])) (HL.out.lots (T := 45) (A := A6) (c := c6) (L := O) (by simp only [List.mem_cons, true_or, or_true]))).mono ?_); rintro e w16 ⟨v16, rfl, hO, hb⟩; replace hO := own_mono hO HL.out.b.size; replace HL := Lib.hid ((HL.out.below hb).addR ⟨2, 1, v16, O.length, nums .i64 P3⟩ hO); clear hO hb)))
      go_upto_region 12 with (first
        | (go_at_call 13; ((with_reducible refine (C19.out _ (HL.out.lots (T := 46) (A := A5) (c := c5) (L := L) (by simp only [List.mem_cons, true_or, or_true])) (HL.out.lots (T := 45) (A := A6) (c := c6) (L := O) (by simp only [List.mem_cons, true_or, or_true]))).mono ?_); rintro e w19 ⟨v19, rfl, hO, hb⟩; replace hO := own_mono hO HL.out.b.size; replace HL := Lib.hid ((HL.out.below hb).addR ⟨2, 1, v19, O.length, nums .i64 P3⟩ hO); clear hO hb)))
      go_upto_region 13 with (first
        | (go_at_call 14; ((with_reducible refine (C22.out _ (HL.out.lots (T := 46) (A := A5) (c := c5) (L := L) (by simp only [List.mem_cons, true_or, or_true])) (HL.out.lots (T := 45) (A := A6) (c := c6) (L := O) (by simp only [List.mem_cons, true_or, or_true]))).mono ?_); rintro e w22 ⟨v22, rfl, hO, hb⟩; replace hO := own_mono hO HL.out.b.size; replace HL := Lib.hid ((HL.out.below hb).addR ⟨2, 1, v22, P4.length, nums .i64 P4⟩ hO); clear hO hb)))
      go_upto_region 14 with (first
        | (go_at_call 15; ((with_reducible refine (C25.out _ (HL.out.lots (T := 46) (A := A5) (c := c5) (L := L) (by simp only [List.mem_cons, true_or, or_true])) (HL.out.lots (T := 45) (A := A6) (c := c6) (L := O) (by simp only [List.mem_cons, true_or, or_true]))).mono ?_); rintro e w25 ⟨v25, rfl, hO, hb⟩; replace hO := own_mono hO HL.out.b.size; replace HL := Lib.hid ((HL.out.below hb).addR ⟨2, 1, v25, P4.length, nums .i64 P4⟩ hO); clear hO hb)))
      go_upto_region 15 with (first
        | (go_at_call 16; ((with_reducible refine (C28.out _ (HL.out.lots (T := 46) (A := A5) (c := c5) (L := L) (by simp only [List.mem_cons, true_or, or_true])) (HL.out.lots (T := 45) (A := A6) (c := c6) (L := O) (by simp only [List.mem_cons, true_or, or_true]))).mono ?_); rintro e w28 ⟨v28, rfl, hO, hb⟩; replace hO := own_mono hO HL.out.b.size; replace HL := Lib.hid ((HL.out.below hb).addR ⟨2, 1, v28, P5.length, nums .i64 P5⟩ hO); clear hO hb)))
      go_upto_region 16 with (first
        | (go_at_call 17; ((with_reducible refine (C31.out _ (HL.out.lots (T := 46) (A := A5) (c := c5) (L := L) (by simp only [List.mem_cons, true_or, or_true])) (HL.out.lots (T := 45) (A := A6) (c := c6) (L := O) (by simp only [List.mem_cons, true_or, or_true]))).mono ?_); rintro e w31 ⟨v31, rfl, hO, hb⟩; replace hO := own_mono hO HL.out.b.size; replace HL := Lib.hid ((HL.out.below hb).addR ⟨2, 1, v31, P5.length, nums .i64 P5⟩ hO); clear hO hb)))
      clear C8 C10 C12 C14 C16 C19 C22 C25 C28 C31
      have h4l : P4.length ≤ 1048576 := by have := fewR_le L.length O.length (lS L) (lG L) (lS O) (lG O); have e := HF.out.few; rw [e] at this; dsimp only at this; have := HNO.out; omega
      have h5l : P5.length ≤ 1048576 := by have := wasteR_le keep L.length O.length (lS L) (lG L) (lS O) (lG O); have e := HF.out.waste; rw [e] at this; dsimp only at this; have := HNO.out; omega
      have hcode := HF.out.code
      rcases hcode with ⟨rfl, hmany⟩ | ⟨rfl, rfl⟩
      · as_aux_lemma =>
        have qm : (many == (O.length : Int)) = false := by simp only [beq_eq_false_iff_ne, ne_eq]; exact hmany
        simp only [List.append_eq, List.cons_append, List.nil_append]
        go_upto_region 18 with (first
          | (go_at_call 18; ((with_reducible refine (c_sameNumbers v8 v10 W.heap.size W.heap.size O.length F1 _ (HL.out.row (by simp only [List.mem_cons, true_or, or_true])) (HL.out.row (by simp only [List.mem_cons, true_or, or_true])) HNO.out).mono ?_); rintro e w40 ⟨rfl, hb⟩; replace HL := Lib.hid (HL.out.below hb); clear hb))
          | (go_at_call 18; ((with_reducible refine (c_sameNumbers v12 v14 W.heap.size W.heap.size O.length F2 _ (HL.out.row (by simp only [List.mem_cons, true_or, or_true])) (HL.out.row (by simp only [List.mem_cons, true_or, or_true])) HNO.out).mono ?_); rintro e w41 ⟨rfl, hb⟩; replace HL := Lib.hid (HL.out.below hb); clear hb))
          | (go_at_call 18; ((with_reducible refine (c_sameNumbers v16 v19 W.heap.size W.heap.size O.length P3 _ (HL.out.row (by simp only [List.mem_cons, true_or, or_true])) (HL.out.row (by simp only [List.mem_cons, true_or, or_true])) HNO.out).mono ?_); rintro e w42 ⟨rfl, hb⟩; replace HL := Lib.hid (HL.out.below hb); clear hb))
          | (go_at_call 18; ((with_reducible refine (c_sameNumbers v22 v25 W.heap.size W.heap.size P4.length P4 _ (HL.out.row (by simp only [List.mem_cons, true_or, or_true])) (HL.out.row (by simp only [List.mem_cons, true_or, or_true])) h4l).mono ?_); rintro e w43 ⟨rfl, hb⟩; replace HL := Lib.hid (HL.out.below hb); clear hb))
          | (go_at_call 18; ((with_reducible refine (c_sameNumbers v28 v31 W.heap.size W.heap.size P5.length P5 _ (HL.out.row (by simp only [List.mem_cons, true_or, or_true])) (HL.out.row (by simp only [List.mem_cons, true_or, or_true])) h5l).mono ?_); rintro e w44 ⟨rfl, hb⟩; replace HL := Lib.hid (HL.out.below hb); clear hb))
          | (go_at_call 19; ((with_reducible refine (CV5.out _ (HL.out.lots (T := 46) (A := A5) (c := c5) (L := L) (by simp only [List.mem_cons, true_or, or_true]))).mono ?_); rintro e w45 ⟨rfl, hb⟩; replace HL := Lib.hid (HL.out.below hb); clear hb))
          | (go_at_call 20; ((with_reducible refine (CV6.out _ (HL.out.lots (T := 45) (A := A6) (c := c6) (L := O) (by simp only [List.mem_cons, true_or, or_true]))).mono ?_); rintro e w46 ⟨rfl, hb⟩; replace HL := Lib.hid (HL.out.below hb); clear hb)))
        clear CV5 CV6 h4l h5l qm
        obtain ⟨A10, c10, rfl, -⟩ := own_form (HL.out.row (t := 2) (s := 1) (v := v10) (n := O.length) (xs := nums .i64 F1) (by simp only [List.mem_cons, true_or, or_true]))
        obtain ⟨A14, c14, rfl, -⟩ := own_form (HL.out.row (t := 2) (s := 1) (v := v14) (n := O.length) (xs := nums .i64 F2) (by simp only [List.mem_cons, true_or, or_true]))
        obtain ⟨A19, c19, rfl, -⟩ := own_form (HL.out.row (t := 2) (s := 1) (v := v19) (n := O.length) (xs := nums .i64 P3) (by simp only [List.mem_cons, true_or, or_true]))
        go_upto_region 19 with (fail)
        have hzv := HL.out.b.size
        have hO : (w46.alloc (.cells [.slice A10 O.length c10, .slice A14 O.length c14, .slice A19 O.length c19].toArray 29 (0, 0))).ownsRow W.heap.size 29 1 (.slice (some ⟨w46.heap.size, 0, none⟩) 3 3) 3 [.slice A10 O.length c10, .slice A14 O.length c14, .slice A19 O.length c19] := own_of_row (heap_alloc_new w46 (.cells [.slice A10 O.length c10, .slice A14 O.length c14, .slice A19 O.length c19].toArray 29 (0, 0))) rfl hzv (by omega)
        replace HL := Lib.hid ((HL.out.below (below_alloc (Below.refl _ _) (.cells [.slice A10 O.length c10, .slice A14 O.length c14, .slice A19 O.length c19].toArray 29 (0, 0)))).addR ⟨29, 1, .slice (some ⟨w46.heap.size, 0, none⟩) 3 3, 3, [.slice A10 O.length c10, .slice A14 O.length c14, .slice A19 O.length c19]⟩ hO)
        clear hO hzv
        generalize hwl : w46.alloc (.cells (List.toArray [.slice A10 O.length c10, .slice A14 O.length c14, .slice A19 O.length c19]) 29) = wl at *
        clear hwl
        generalize w46.heap.size = g34 at *
        replace HL := Lib.hid ((HL.out.sub (R' := [⟨2, 1, (.slice A10 O.length c10), O.length, nums .i64 F1⟩, ⟨2, 1, (.slice A14 O.length c14), O.length, nums .i64 F2⟩, ⟨2, 1, (.slice A19 O.length c19), O.length, nums .i64 P3⟩, ⟨45, 2, .slice A6 O.length c6, O.length, ltRow O⟩, ⟨46, 2, .slice A5 L.length c5, L.length, ltRow L⟩]) (fun p hp => by
            simp only [List.mem_cons, List.not_mem_nil, or_false] at hp
            rcases hp with rfl | rfl | rfl | rfl | rfl <;> simp only [List.mem_cons, true_or, or_true])).addR ⟨29, 1, .slice (some ⟨g34, 0, none⟩) 3 3, 3, [.slice A10 O.length c10, .slice A14 O.length c14, .slice A19 O.length c19]⟩ (HL.out.row (t := 29) (s := 1) (v := .slice (some ⟨g34, 0, none⟩) 3 3) (n := 3) (xs := [.slice A10 O.length c10, .slice A14 O.length c14, .slice A19 O.length c19]) (by simp only [List.mem_cons, true_or, or_true])))
        go_upto_region 22 with (fail)
        have HPK : Hid (∀ k : Nat, k < 3 → ∃ P R A c, [.slice A10 O.length c10, .slice A14 O.length c14, .slice A19 O.length c19][k]? = some (Value.slice A O.length c) ∧ (⟨2, 1, .slice A O.length c, O.length, nums .i64 P⟩ : Rw) ∈ [⟨29, 1, .slice (some ⟨g34, 0, none⟩) 3 3, 3, [.slice A10 O.length c10, .slice A14 O.length c14, .slice A19 O.length c19]⟩, ⟨2, 1, (.slice A10 O.length c10), O.length, nums .i64 F1⟩, ⟨2, 1, (.slice A14 O.length c14), O.length, nums .i64 F2⟩, ⟨2, 1, (.slice A19 O.length c19), O.length, nums .i64 P3⟩, ⟨45, 2, .slice A6 O.length c6, O.length, ltRow O⟩, ⟨46, 2, .slice A5 L.length c5, L.length, ltRow L⟩] ∧ PlanOk L O keep many least low P R ∧ (k = 2 → servT P O.length = many) ∧ (2 < k → servT P O.length = (O.length : Int)) ∧ (k = 3 → openT O P L.length = least) ∧ (k = 4 → lostT O P R keep L.length = low)) := fun k hk => by
          rcases (show k = 0 ∨ k = 1 ∨ k = 2 by omega) with rfl | rfl | rfl
          · exact ⟨F1, R1, A10, c10, rfl, (by simp only [List.mem_cons, true_or, or_true]), HF.out.p1, (fun h => absurd h (by decide)), (fun h => absurd h (by decide)), (fun h => absurd h (by decide)), (fun h => absurd h (by decide))⟩
          · exact ⟨F2, R2, A14, c14, rfl, (by simp only [List.mem_cons, true_or, or_true]), HF.out.p2, (fun h => absurd h (by decide)), (fun h => absurd h (by decide)), (fun h => absurd h (by decide)), (fun h => absurd h (by decide))⟩
          · exact ⟨P3, R3, A19, c19, rfl, (by simp only [List.mem_cons, true_or, or_true]), HF.out.p3.1, (fun _ => HF.out.p3.2), (fun h => absurd h (by decide)), (fun h => absurd h (by decide)), (fun h => absurd h (by decide))⟩
        go_wp2
        go_loopw [35] (fun kv wr => ∃ k : Nat, k ≤ 3 ∧ kv = .int .i64 (k : Int) ∧ Hid (RL W [⟨29, 1, .slice (some ⟨g34, 0, none⟩) 3 3, 3, [.slice A10 O.length c10, .slice A14 O.length c14, .slice A19 O.length c19]⟩, ⟨2, 1, (.slice A10 O.length c10), O.length, nums .i64 F1⟩, ⟨2, 1, (.slice A14 O.length c14), O.length, nums .i64 F2⟩, ⟨2, 1, (.slice A19 O.length c19), O.length, nums .i64 P3⟩, ⟨45, 2, .slice A6 O.length c6, O.length, ltRow O⟩, ⟨46, 2, .slice A5 L.length c5, L.length, ltRow L⟩] wr)) (fun i _ => 3 - (intOf i).toNat)
        case atStart => exact ⟨0, by omega, rfl, HL⟩
        case round => as_aux_lemma =>
          clear HL
          obtain ⟨k, hk, rfl, HL⟩ := hrel
          by_cases hkn : k < 3
          · as_aux_lemma =>
            have e1 : decide ((k : Int) < 3) = true := by simp; omega
            have k0 : (0 : Int) ≤ (k : Int) := by omega
            have k1 : (k : Int) < 3 := by omega
            obtain ⟨P, R, A, c, hv, hm, hp, z2, z3, z4, z5⟩ := HPK.out k hkn
            have HP := Lib.hid hp
            have HM := Lib.hid hm
            have HV := Lib.hid hv
            have HZ2 := Lib.hid z2
            have HZ3 := Lib.hid z3
            have HZ4 := Lib.hid z4
            have HZ5 := Lib.hid z5
            have hpz : ∀ j, -9223372036854775808 ≤ gi P j ∧ gi P j ≤ 9223372036854775807 := fun j => by have := hp.bd j; omega
            have CSB := Lib.hid (fun w (h1 : LotsAt w A5 L.length (lS L) (lG L)) (h2 : LotsAt w A6 O.length (lS O) (lG O)) (h3 : RdRow w A (nums .i64 P)) => hp.served ▸ c_iServedBy A5 A6 A L.length O.length O.length c5 c6 c (lS L) (lG L) (lS O) (lG O) P w h1 h2 h3 hp.len HNL.out HNO.out HNO.out HG.out HGO.out hpz)
            have CLI : Hid (∀ w, LotsAt w A5 L.length (lS L) (lG L) → LotsAt w A6 O.length (lS O) (lG O) → RdRow w A (nums .i64 P) → Calls Try.prog 22 #[.slice A5 L.length c5, .slice A6 O.length c6, .slice A O.length c] w fun e w' => ∃ v, e = .returned (.tuple #[v, .int .i64 0]) ∧ w'.ownsRow w.heap.size 2 1 v L.length (nums .i64 R) ∧ Below w.heap.size w w') := fun w h1 h2 h3 => by
              have := c_iLeftIn A5 A6 A L.length O.length O.length c5 c6 c (lS L) (lG L) (lS O) (lG O) P w h1 h2 h3 hp.len HNL.out HNO.out HNO.out HG.out HGO.out hpz
              rw [hp.left] at this
              dsimp only at this
              rw [hp.rlen] at this
              exact this
            have CLS : Hid (∀ w, LotsAt w A5 L.length (lS L) (lG L) → LotsAt w A6 O.length (lS O) (lG O) → RdRow w A (nums .i64 P) → Calls Try.prog 23 #[.slice A5 L.length c5, .slice A6 O.length c6, .slice A O.length c] w fun e w' => ∃ v, e = .returned (.tuple #[v, .int .i64 0]) ∧ w'.ownsRow w.heap.size 2 1 v L.length (nums .i64 R) ∧ Below w.heap.size w w') := fun w h1 h2 h3 => by
              have := c_sLeftIn A5 A6 A L.length O.length O.length c5 c6 c (lS L) (lG L) (lS O) (lG O) P w h1 h2 h3 hp.len HNL.out HNO.out HNO.out HG.out HGO.out hpz
              rw [hp.left] at this
              dsimp only at this
              rw [hp.rlen] at this
              exact this
            have x0 := (own_get (HL.out.row (t := 29) (s := 1) (v := .slice (some ⟨g34, 0, none⟩) 3 3) (n := 3) (xs := [.slice A10 O.length c10, .slice A14 O.length c14, .slice A19 O.length c19]) (by simp only [List.mem_cons, true_or, or_true])) hv).1
            clear hv hm hp z2 z3 z4 z5 hpz
            go_upto_region 25 with (first
              | (go_at_call 21; ((with_reducible refine (CSB.out _ (HL.out.lots (T := 46) (A := A5) (c := c5) (L := L) (by simp only [List.mem_cons, true_or, or_true])) (HL.out.lots (T := 45) (A := A6) (c := c6) (L := O) (by simp only [List.mem_cons, true_or, or_true])) (own_rd (HL.out.r _ HM.out))).mono ?_); rintro e w50 ⟨rfl, hb⟩; replace HL := Lib.hid (HL.out.below hb); replace x0 := (own_get (HL.out.row (t := 29) (s := 1) (v := .slice (some ⟨g34, 0, none⟩) 3 3) (n := 3) (xs := [.slice A10 O.length c10, .slice A14 O.length c14, .slice A19 O.length c19]) (by simp only [List.mem_cons, true_or, or_true])) HV.out).1; clear hb)))
            go_upto_region 26 with (first
              | (go_at_call 22; ((with_reducible refine (CLI.out _ (HL.out.lots (T := 46) (A := A5) (c := c5) (L := L) (by simp only [List.mem_cons, true_or, or_true])) (HL.out.lots (T := 45) (A := A6) (c := c6) (L := O) (by simp only [List.mem_cons, true_or, or_true])) (own_rd (HL.out.r _ HM.out))).mono ?_); rintro e w51 ⟨v38, rfl, hO, hb⟩; replace hO := own_mono hO HL.out.b.size; replace HL := Lib.hid ((HL.out.below hb).addR ⟨2, 1, v38, L.length, nums .i64 R⟩ hO); replace x0 := (own_get (HL.out.row (t := 29) (s := 1) (v := .slice (some ⟨g34, 0, none⟩) 3 3) (n := 3) (xs := [.slice A10 O.length c10, .slice A14 O.length c14, .slice A19 O.length c19]) (by simp only [List.mem_cons, true_or, or_true])) HV.out).1; clear hO hb)))
            go_upto_region 27 with (first
              | (go_at_call 23; ((with_reducible refine (CLS.out _ (HL.out.lots (T := 46) (A := A5) (c := c5) (L := L) (by simp only [List.mem_cons, true_or, or_true])) (HL.out.lots (T := 45) (A := A6) (c := c6) (L := O) (by simp only [List.mem_cons, true_or, or_true])) (own_rd (HL.out.r _ (List.mem_cons_of_mem _ HM.out)))).mono ?_); rintro e w52 ⟨v40, rfl, hO, hb⟩; replace hO := own_mono hO HL.out.b.size; replace HL := Lib.hid ((HL.out.below hb).addR ⟨2, 1, v40, L.length, nums .i64 R⟩ hO); replace x0 := (own_get (HL.out.row (t := 29) (s := 1) (v := .slice (some ⟨g34, 0, none⟩) 3 3) (n := 3) (xs := [.slice A10 O.length c10, .slice A14 O.length c14, .slice A19 O.length c19]) (by simp only [List.mem_cons, true_or, or_true])) HV.out).1; clear hO hb)))
            obtain ⟨A40, c40, rfl, hA40⟩ := own_form (HL.out.row (t := 2) (s := 1) (v := v40) (n := L.length) (xs := nums .i64 R) (by simp only [List.mem_cons, true_or, or_true]))
            have HA40 := Lib.hid hA40
            have HM2 := Lib.hid (List.mem_cons_of_mem (⟨2, 1, (.slice A40 L.length c40), L.length, nums .i64 R⟩ : Rw) (List.mem_cons_of_mem (⟨2, 1, v38, L.length, nums .i64 R⟩ : Rw) HM.out))
            clear hA40 CSB CLI CLS
            go_upto_region 29 with (first
              | (go_at_call 18; ((with_reducible refine (c_sameNumbers v38 (.slice A40 L.length c40) W.heap.size W.heap.size L.length R _ (HL.out.row (by simp only [List.mem_cons, true_or, or_true])) (HL.out.row (by simp only [List.mem_cons, true_or, or_true])) HNL.out).mono ?_); rintro e w53 ⟨rfl, hb⟩; replace HL := Lib.hid (HL.out.below hb); replace x0 := (own_get (HL.out.row (t := 29) (s := 1) (v := .slice (some ⟨g34, 0, none⟩) 3 3) (n := 3) (xs := [.slice A10 O.length c10, .slice A14 O.length c14, .slice A19 O.length c19]) (by simp only [List.mem_cons, true_or, or_true])) HV.out).1; clear hb)))
            go_wp2
            go_loop [45, 42] (fun iv sv => ∃ i : Nat, i ≤ O.length ∧ iv = .int .i64 (i : Int) ∧ sv = .int .i64 (servT P i)) (fun i _ => O.length - (intOf i).toNat)
            case atStart => exact ⟨0, by omega, rfl, rfl⟩
            case round => as_aux_lemma =>
              obtain ⟨i, hi, rfl, rfl⟩ := hrel
              by_cases hio : i < O.length
              · as_aux_lemma =>
                have e2 : decide ((i : Int) < (O.length : Int)) = true := by simp; omega
                have i0 : (0 : Int) ≤ (i : Int) := by omega
                have i1 : (i : Int) < (O.length : Int) := by omega
                obtain ⟨ad, had, y0⟩ := (own_rd (HL.out.r _ HM2.out)) i _ (nums_get (zs := P) (j := i) (by rw [HP.out.len]; exact hio))
                have hs : servT P (i + 1) = servT P i + (if 0 ≤ gi P i then 1 else 0) := rfl
                have HS := Lib.hid hs
                have hb := servT_bd P i
                clear hs
                have had2 : A = some ad := had
                clear had HM2 HM
                subst had2
                generalize servT P i = sv at *
                generalize gi P i = pi at *
                cases q : decide (0 ≤ pi)
                · as_aux_lemma =>
                  go_wp2
                  go_round
                  case rel => exact ⟨i + 1, by omega, by go_num, by rw [HS.out, if_neg (of_decide_eq_false q), Int.add_zero]⟩
                  case measure => simp [intOf]; omega
                · as_aux_lemma =>
                  go_wp2
                  go_round
                  case rel => exact ⟨i + 1, by omega, by go_num, by rw [HS.out, if_pos (of_decide_eq_true q)]; (try go_num)⟩
                  case measure => simp [intOf]; omega
              · as_aux_lemma =>
                obtain rfl : i = O.length := by omega
                have e2 : decide ((O.length : Int) < (O.length : Int)) = false := by simp
                go_wp2
                go_loopw [46, 43, 44] (fun iv ov lv wr => ∃ i : Nat, i ≤ L.length ∧ iv = .int .i64 (i : Int) ∧ ov = .int .i64 (openT O P i) ∧ lv = .int .i64 (lostT O P R keep i) ∧ Hid (RL W [⟨2, 1, (.slice A40 L.length c40), L.length, nums .i64 R⟩, ⟨2, 1, v38, L.length, nums .i64 R⟩, ⟨29, 1, .slice (some ⟨g34, 0, none⟩) 3 3, 3, [.slice A10 O.length c10, .slice A14 O.length c14, .slice A19 O.length c19]⟩, ⟨2, 1, (.slice A10 O.length c10), O.length, nums .i64 F1⟩, ⟨2, 1, (.slice A14 O.length c14), O.length, nums .i64 F2⟩, ⟨2, 1, (.slice A19 O.length c19), O.length, nums .i64 P3⟩, ⟨45, 2, .slice A6 O.length c6, O.length, ltRow O⟩, ⟨46, 2, .slice A5 L.length c5, L.length, ltRow L⟩] wr)) (fun i _ _ _ => L.length - (intOf i).toNat)
                case atStart => exact ⟨0, by omega, rfl, rfl, rfl, HL⟩
                case round => as_aux_lemma =>
                  clear HL x0 hi hio
                  obtain ⟨i, hi, rfl, rfl, rfl, HL⟩ := hrel
                  have x0 := (own_get (HL.out.row (t := 29) (s := 1) (v := .slice (some ⟨g34, 0, none⟩) 3 3) (n := 3) (xs := [.slice A10 O.length c10, .slice A14 O.length c14, .slice A19 O.length c19]) (by simp only [List.mem_cons, true_or, or_true])) HV.out).1
                  by_cases hil : i < L.length
                  · as_aux_lemma =>
                    have e3 : decide ((i : Int) < (L.length : Int)) = true := by simp; omega
                    have i0 : (0 : Int) ≤ (i : Int) := by omega
                    have i1 : (i : Int) < (L.length : Int) := by omega
                    go_wp2
                    go_loop [48, 47] (fun jv sv => ∃ j : Nat, j ≤ O.length ∧ jv = .int .i64 (j : Int) ∧ sv = .int .i64 (tot (takeF (lG O) P i) j)) (fun i _ => O.length - (intOf i).toNat)
                    case atStart => exact ⟨0, by omega, rfl, rfl⟩
                    case round => as_aux_lemma =>
                      obtain ⟨j, hj, rfl, rfl⟩ := hrel
                      by_cases hjo : j < O.length
                      · as_aux_lemma =>
                        have e4 : decide ((j : Int) < (O.length : Int)) = true := by simp; omega
                        have j0 : (0 : Int) ≤ (j : Int) := by omega
                        have j1 : (j : Int) < (O.length : Int) := by omega
                        obtain ⟨ad, had, y0⟩ := (own_rd (HL.out.r _ HM2.out)) j _ (nums_get (zs := P) (j := j) (by rw [HP.out.len]; exact hjo))
                        obtain ⟨g6, rfl, -⟩ := HA6.out (by omega)
                        have y1 := (HL.out.lt (T := 45) (g := g6) (c := c6) (L := O) (by simp only [List.mem_cons, true_or, or_true]) hjo).2
                        have hs : tot (takeF (lG O) P i) (j + 1) = tot (takeF (lG O) P i) j + (if gi P j = (i : Int) then lG O j else 0) := rfl
                        have HS := Lib.hid hs
                        have hob := HF.out.ob j
                        have hb := takeT_bd (fun j => ⟨(HF.out.ob j).1, (HF.out.ob j).2.1⟩) P i j
                        clear hs
                        have had2 : A = some ad := had
                        clear had HM2 HM
                        subst had2
                        generalize tot (takeF (lG O) P i) j = sv at *
                        generalize gi P j = pj at *
                        generalize lG O j = lo at *
                        cases q : (pj == (i : Int))
                        · as_aux_lemma =>
                          go_wp2
                          go_round
                          case rel => exact ⟨j + 1, by omega, by go_num, by rw [HS.out, if_neg (fun h => by simp [h] at q), Int.add_zero]⟩
                          case measure => simp [intOf]; omega
                        · as_aux_lemma =>
                          go_wp2
                          go_round
                          case rel => exact ⟨j + 1, by omega, by go_num, by rw [HS.out, if_pos (beq_iff_eq.1 q)]; (try go_num)⟩
                          case measure => simp [intOf]; omega
                      · as_aux_lemma =>
                        obtain rfl : j = O.length := by omega
                        have e4 : decide ((O.length : Int) < (O.length : Int)) = false := by simp
                        obtain ⟨g40, rfl, -⟩ := HA40.out (by omega)
                        obtain ⟨g5, rfl, -⟩ := HA5.out (by omega)
                        have y1 := HL.out.num (g := g40) (n := L.length) (c := c40) (zs := R) (by simp only [List.mem_cons, true_or, or_true]) (j := i) (by rw [HP.out.rlen]; exact hil)
                        have y2 := (HL.out.lt (T := 46) (g := g5) (c := c5) (L := L) (by simp only [List.mem_cons, true_or, or_true]) hil).2
                        have hst := HP.out.stock i hil
                        have hrb := HP.out.rbd i
                        have hlb := HF.out.lb i
                        have hb := takeT_bd (fun j => ⟨(HF.out.ob j).1, (HF.out.ob j).2.1⟩) P i O.length
                        have hob := openT_bd O P i
                        have hlo := lostT_bd HP.out.rbd O P keep i
                        have hs1 : openT O P (i + 1) = openT O P i + (if 0 < tot (takeF (lG O) P i) O.length then 1 else 0) := rfl
                        have hs2 : lostT O P R keep (i + 1) = lostT O P R keep i + (if 0 < tot (takeF (lG O) P i) O.length ∧ gi R i < keep then gi R i else 0) := rfl
                        have HS1 := Lib.hid hs1
                        have HS2 := Lib.hid hs2
                        clear hs1 hs2
                        rw [← hst] at y2 hlb
                        generalize tot (takeF (lG O) P i) O.length = sv at *
                        generalize gi R i = ri at *
                        generalize openT O P i = ov at *
                        generalize lostT O P R keep i = lv at *
                        have hst2 : Hid (sv + ri = lG L i) := hst
                        have hw1 : IntKind.i64.wrap (sv + ri) = sv + ri := IntWalk.i64_in _ (by omega)
                        have hq0 : decide (ri < 0) = false := by simp; omega
                        clear hst
                        cases q1 : decide (0 < sv)
                        · as_aux_lemma =>
                          go_upto_region 50 with (fail)
                          go_quiet (fail)
                          go_wp2
                          go_roundw
                          case rel => exact ⟨i + 1, by omega, by go_num, by rw [HS1.out, if_neg (of_decide_eq_false q1), Int.add_zero], by rw [HS2.out, if_neg (fun h => of_decide_eq_false q1 h.1), Int.add_zero], HL.out.drew _⟩
                          case measure => simp [intOf]; omega
                        · as_aux_lemma =>
                          cases q2 : decide (ri < keep)
                          · as_aux_lemma =>
                            go_upto_region 50 with (fail)
                            go_quiet (fail)
                            go_wp2
                            go_roundw
                            case rel => exact ⟨i + 1, by omega, by go_num, by rw [HS1.out, if_pos (of_decide_eq_true q1)]; (try go_num), by rw [HS2.out, if_neg (fun h => of_decide_eq_false q2 h.2), Int.add_zero], HL.out.drew _⟩
                            case measure => simp [intOf]; omega
                          · as_aux_lemma =>
                            go_upto_region 50 with (fail)
                            go_quiet (fail)
                            go_wp2
                            go_roundw
                            case rel => exact ⟨i + 1, by omega, by go_num, by rw [HS1.out, if_pos (of_decide_eq_true q1)]; (try go_num), by rw [HS2.out, if_pos ⟨of_decide_eq_true q1, of_decide_eq_true q2⟩]; (try go_num), HL.out.drew _⟩
                            case measure => simp [intOf]; omega
                  · as_aux_lemma =>
                    obtain rfl : i = L.length := by omega
                    have e3 : decide ((L.length : Int) < (L.length : Int)) = false := by simp
                    have hle := HP.out.le
                    have htop := HP.out.top
                    have HLE := Lib.hid htop
                    have z2 := HZ2.out
                    have z3 := HZ3.out
                    have z4 := HZ4.out
                    have z5 := HZ5.out
                    clear htop HM HM2 HV HA40 HA5 HA6 HF HPK HG HGO HNL HNO x0 HZ2 HZ3 HZ4 HZ5
                    replace HL := Lib.hid (HL.out.sub (R' := [⟨29, 1, .slice (some ⟨g34, 0, none⟩) 3 3, 3, [.slice A10 O.length c10, .slice A14 O.length c14, .slice A19 O.length c19]⟩, ⟨2, 1, (.slice A10 O.length c10), O.length, nums .i64 F1⟩, ⟨2, 1, (.slice A14 O.length c14), O.length, nums .i64 F2⟩, ⟨2, 1, (.slice A19 O.length c19), O.length, nums .i64 P3⟩, ⟨45, 2, .slice A6 O.length c6, O.length, ltRow O⟩, ⟨46, 2, .slice A5 L.length c5, L.length, ltRow L⟩]) (fun p hp => List.mem_cons_of_mem _ (List.mem_cons_of_mem _ hp)))
                    clear HP
                    generalize servT P O.length = sv at *
                    generalize openT O P L.length = ov at *
                    generalize lostT O P R keep L.length = lv at *
                    have q0 : decide (many < sv) = false := by simp; omega
                    rcases (show k < 2 ∨ k = 2 by omega) with hk2 | rfl
                    · as_aux_lemma =>
                      have c2 : ((k : Int) == 2) = false := by simp; omega
                      have c3 : decide ((2 : Int) < (k : Int)) = false := by simp; omega
                      have c4 : ((k : Int) == 3) = false := by simp; omega
                      have c5 : ((k : Int) == 4) = false := by simp; omega
                      clear z2 z3 z4 z5
                      cases qe : (sv == (O.length : Int))
                      · as_aux_lemma =>
                        go_wp2
                        go_roundw
                        case rel => exact ⟨k + 1, by omega, by go_num, HL⟩
                        case measure => (simp [intOf] <;> omega)
                      · as_aux_lemma =>
                        obtain ⟨t1, t2⟩ := HLE.out (beq_iff_eq.1 qe)
                        have u1 : decide (ov < least) = false := by simp; omega
                        have u2 : decide (lv < low) = false := by simp; omega
                        clear t1 t2
                        go_wp2
                        go_roundw
                        case rel => exact ⟨k + 1, by omega, by go_num, HL⟩
                        case measure => (simp [intOf] <;> omega)
                    · as_aux_lemma =>
                      have s2 : (sv != many) = false := by simp [z2 rfl]
                      clear z2 z3 z4 z5
                      cases qe : (sv == (O.length : Int))
                      · as_aux_lemma =>
                        go_wp2
                        go_roundw
                        case rel => exact ⟨2 + 1, by omega, by go_num, HL⟩
                        case measure => (simp [intOf] <;> omega)
                      · as_aux_lemma =>
                        obtain ⟨t1, t2⟩ := HLE.out (beq_iff_eq.1 qe)
                        have u1 : decide (ov < least) = false := by simp; omega
                        have u2 : decide (lv < low) = false := by simp; omega
                        clear t1 t2
                        go_wp2
                        go_roundw
                        case rel => exact ⟨2 + 1, by omega, by go_num, HL⟩
                        case measure => (simp [intOf] <;> omega)
          · as_aux_lemma =>
            obtain rfl : k = 3 := by omega
            have e1 : decide (((3 : Nat) : Int) < 3) = false := by simp
            clear HPK
            have CSH : Hid (∀ w, LotsAt w A5 L.length (lS L) (lG L) → LotsAt w A6 O.length (lS O) (lG O) → Calls Try.prog 24 #[.slice A5 L.length c5, .slice A6 O.length c6] w fun e w' => ∃ v, e = .returned (.tuple #[v, .int .i64 0]) ∧ w'.ownsRow w.heap.size 50 2 v 10 (nums .i64 (ordSum (lotSum (lS L) (lG L) L.length) (lS O) (lG O) O.length)) ∧ Below w.heap.size w w') := fun w h1 h2 => by
              have := c_iShadeSums A5 A6 L.length O.length c5 c6 (lS L) (lG L) (lS O) (lG O) w h1 h2 HNL.out HNO.out HG.out HGO.out
              have e : shadesN L.length O.length (lS L) (lG L) (lS O) (lG O) = 10 := by rw [shadesN, HF.out.lok, HF.out.ook]; rfl
              rw [HF.out.shades, e] at this
              exact this
            go_upto_region 55 with (first
              | (go_at_call 24; ((with_reducible refine (CSH.out _ (HL.out.lots (T := 46) (A := A5) (c := c5) (L := L) (by simp only [List.mem_cons, true_or, or_true])) (HL.out.lots (T := 45) (A := A6) (c := c6) (L := O) (by simp only [List.mem_cons, true_or, or_true]))).mono ?_); rintro e w60 ⟨v49, rfl, hO, hb⟩; replace hO := own_mono hO HL.out.b.size; replace HL := Lib.hid ((HL.out.below hb).addR ⟨50, 2, v49, 10, nums .i64 (ordSum (lotSum (lS L) (lG L) L.length) (lS O) (lG O) O.length)⟩ hO); clear hO hb)))
            obtain ⟨A49, c49, rfl, hA49⟩ := own_form (HL.out.row (t := 50) (s := 2) (v := v49) (n := 10) (xs := nums .i64 (ordSum (lotSum (lS L) (lG L) L.length) (lS O) (lG O) O.length)) (by simp only [List.mem_cons, true_or, or_true]))
            obtain ⟨g49, rfl, -⟩ := hA49 (by omega)
            clear CSH hA49 e1
            go_wp2
            go_loopw [51] (fun kv wr => ∃ sh : Nat, sh ≤ 10 ∧ kv = .int .i64 (sh : Int) ∧ Hid (RL W (⟨50, 2, (.slice (some ⟨g49, 0, none⟩) 10 c49), 10, nums .i64 (ordSum (lotSum (lS L) (lG L) L.length) (lS O) (lG O) O.length)⟩ :: [⟨29, 1, .slice (some ⟨g34, 0, none⟩) 3 3, 3, [.slice A10 O.length c10, .slice A14 O.length c14, .slice A19 O.length c19]⟩, ⟨2, 1, (.slice A10 O.length c10), O.length, nums .i64 F1⟩, ⟨2, 1, (.slice A14 O.length c14), O.length, nums .i64 F2⟩, ⟨2, 1, (.slice A19 O.length c19), O.length, nums .i64 P3⟩, ⟨45, 2, .slice A6 O.length c6, O.length, ltRow O⟩, ⟨46, 2, .slice A5 L.length c5, L.length, ltRow L⟩]) wr)) (fun i _ => 10 - (intOf i).toNat)
            case atStart => exact ⟨0, by omega, rfl, HL⟩
            case round => as_aux_lemma =>
              clear HL
              obtain ⟨sh, hsh, rfl, HL⟩ := hrel
              by_cases hs10 : sh < 10
              · as_aux_lemma =>
                have e1 : decide ((sh : Int) < 10) = true := by simp; omega
                have k0 : (0 : Int) ≤ (sh : Int) := by omega
                have k1 : (sh : Int) < 10 := by omega
                have x1 := (own_get (HL.out.row (t := 50) (s := 2) (v := (.slice (some ⟨g49, 0, none⟩) 10 c49)) (n := 10) (xs := nums .i64 (ordSum (lotSum (lS L) (lG L) L.length) (lS O) (lG O) O.length)) (by simp only [List.mem_cons, true_or, or_true])) (nums_get (k := .i64) (zs := (ordSum (lotSum (lS L) (lG L) L.length) (lS O) (lG O) O.length)) (j := sh * 2) (by rw [HF.out.slen]; omega))).1
                have x2 := (own_get (HL.out.row (t := 50) (s := 2) (v := (.slice (some ⟨g49, 0, none⟩) 10 c49)) (n := 10) (xs := nums .i64 (ordSum (lotSum (lS L) (lG L) L.length) (lS O) (lG O) O.length)) (by simp only [List.mem_cons, true_or, or_true])) (nums_get (k := .i64) (zs := (ordSum (lotSum (lS L) (lG L) L.length) (lS O) (lG O) O.length)) (j := sh * 2 + 1) (by rw [HF.out.slen]; omega))).1
                rw [show gi (ordSum (lotSum (lS L) (lG L) L.length) (lS O) (lG O) O.length) (sh * 2) = shT L sh L.length from HF.out.have_ sh hs10] at x1
                rw [show gi (ordSum (lotSum (lS L) (lG L) L.length) (lS O) (lG O) O.length) (sh * 2 + 1) = shT O sh O.length from HF.out.want sh hs10] at x2
                go_wp2
                go_loop [54, 52] (fun iv sv => ∃ i : Nat, i ≤ L.length ∧ iv = .int .i64 (i : Int) ∧ sv = .int .i64 (shT L sh i)) (fun i _ => L.length - (intOf i).toNat)
                case atStart => exact ⟨0, by omega, rfl, rfl⟩
                case round => as_aux_lemma =>
                  obtain ⟨i, hi, rfl, rfl⟩ := hrel
                  by_cases hil : i < L.length
                  · as_aux_lemma =>
                    have e2 : decide ((i : Int) < (L.length : Int)) = true := by simp; omega
                    have i0 : (0 : Int) ≤ (i : Int) := by omega
                    have i1 : (i : Int) < (L.length : Int) := by omega
                    obtain ⟨gA, rfl, -⟩ := HA5.out (by omega)
                    obtain ⟨y1, y2⟩ := HL.out.lt (T := 46) (g := gA) (c := c5) (L := L) (by simp only [List.mem_cons, true_or, or_true]) hil
                    have hs : shT L sh (i + 1) = shT L sh i + (if lS L i = (sh : Int) then lG L i else 0) := rfl
                    have HS := Lib.hid hs
                    have hb0 := HF.out.lb i
                    have hb := shT_bd (L := L) (fun j => by have := HF.out.lb j; omega) sh i
                    clear hs
                    generalize shT L sh i = sv at *
                    generalize lS L i = si at *
                    generalize lG L i = wi at *
                    cases q : (si == (sh : Int))
                    · as_aux_lemma =>
                      go_wp2
                      go_round
                      case rel => exact ⟨i + 1, by omega, by go_num, by rw [HS.out, if_neg (fun h => by simp [h] at q), Int.add_zero]⟩
                      case measure => simp [intOf]; omega
                    · as_aux_lemma =>
                      go_wp2
                      go_round
                      case rel => exact ⟨i + 1, by omega, by go_num, by rw [HS.out, if_pos (beq_iff_eq.1 q)]; (try go_num)⟩
                      case measure => simp [intOf]; omega
                  · as_aux_lemma =>
                    obtain rfl : i = L.length := by omega
                    have e2 : decide ((L.length : Int) < (L.length : Int)) = false := by simp
                    go_wp2
                    go_loop [55, 53] (fun iv sv => ∃ i : Nat, i ≤ O.length ∧ iv = .int .i64 (i : Int) ∧ sv = .int .i64 (shT O sh i)) (fun i _ => O.length - (intOf i).toNat)
                    case atStart => exact ⟨0, by omega, rfl, rfl⟩
                    case round => as_aux_lemma =>
                      obtain ⟨i, hi, rfl, rfl⟩ := hrel
                      by_cases hil : i < O.length
                      · as_aux_lemma =>
                        have e2 : decide ((i : Int) < (O.length : Int)) = true := by simp; omega
                        have i0 : (0 : Int) ≤ (i : Int) := by omega
                        have i1 : (i : Int) < (O.length : Int) := by omega
                        obtain ⟨gA, rfl, -⟩ := HA6.out (by omega)
                        obtain ⟨y1, y2⟩ := HL.out.lt (T := 45) (g := gA) (c := c6) (L := O) (by simp only [List.mem_cons, true_or, or_true]) hil
                        have hs : shT O sh (i + 1) = shT O sh i + (if lS O i = (sh : Int) then lG O i else 0) := rfl
                        have HS := Lib.hid hs
                        have hb0 := HF.out.ob i
                        have hb := shT_bd (L := O) (fun j => by have := HF.out.ob j; omega) sh i
                        clear hs
                        generalize shT O sh i = sv at *
                        generalize lS O i = si at *
                        generalize lG O i = wi at *
                        cases q : (si == (sh : Int))
                        · as_aux_lemma =>
                          go_wp2
                          go_round
                          case rel => exact ⟨i + 1, by omega, by go_num, by rw [HS.out, if_neg (fun h => by simp [h] at q), Int.add_zero]⟩
                          case measure => simp [intOf]; omega
                        · as_aux_lemma =>
                          go_wp2
                          go_round
                          case rel => exact ⟨i + 1, by omega, by go_num, by rw [HS.out, if_pos (beq_iff_eq.1 q)]; (try go_num)⟩
                          case measure => simp [intOf]; omega
                      · as_aux_lemma =>
                        obtain rfl : i = O.length := by omega
                        have e2 : decide ((O.length : Int) < (O.length : Int)) = false := by simp
                        go_wp2
                        go_wp2
                        go_roundw
                        case rel => exact ⟨sh + 1, by omega, by go_num, HL⟩
                        case measure => simp [intOf]; omega
              · as_aux_lemma =>
                obtain rfl : sh = 10 := by omega
                have e1 : decide (((10 : Nat) : Int) < 10) = false := by simp
                go_wp2
                go_ret
                exact ⟨rfl, HL.out.b⟩
      · as_aux_lemma =>
        have hp4 := HF.out.p4 rfl
        have hp5 := HF.out.p5 rfl
        rw [hp4.1.len] at h4l HL
        rw [hp5.1.len] at h5l HL
        have HP4 := Lib.hid hp4
        have HP5 := Lib.hid hp5
        clear hp4 hp5
        simp only [List.append_eq, List.cons_append, List.nil_append]
        go_upto_region 18 with (first
          | (go_at_call 18; ((with_reducible refine (c_sameNumbers v8 v10 W.heap.size W.heap.size O.length F1 _ (HL.out.row (by simp only [List.mem_cons, true_or, or_true])) (HL.out.row (by simp only [List.mem_cons, true_or, or_true])) HNO.out).mono ?_); rintro e w40 ⟨rfl, hb⟩; replace HL := Lib.hid (HL.out.below hb); clear hb))
          | (go_at_call 18; ((with_reducible refine (c_sameNumbers v12 v14 W.heap.size W.heap.size O.length F2 _ (HL.out.row (by simp only [List.mem_cons, true_or, or_true])) (HL.out.row (by simp only [List.mem_cons, true_or, or_true])) HNO.out).mono ?_); rintro e w41 ⟨rfl, hb⟩; replace HL := Lib.hid (HL.out.below hb); clear hb))
          | (go_at_call 18; ((with_reducible refine (c_sameNumbers v16 v19 W.heap.size W.heap.size O.length P3 _ (HL.out.row (by simp only [List.mem_cons, true_or, or_true])) (HL.out.row (by simp only [List.mem_cons, true_or, or_true])) HNO.out).mono ?_); rintro e w42 ⟨rfl, hb⟩; replace HL := Lib.hid (HL.out.below hb); clear hb))
          | (go_at_call 18; ((with_reducible refine (c_sameNumbers v22 v25 W.heap.size W.heap.size O.length P4 _ (HL.out.row (by simp only [List.mem_cons, true_or, or_true])) (HL.out.row (by simp only [List.mem_cons, true_or, or_true])) h4l).mono ?_); rintro e w43 ⟨rfl, hb⟩; replace HL := Lib.hid (HL.out.below hb); clear hb))
          | (go_at_call 18; ((with_reducible refine (c_sameNumbers v28 v31 W.heap.size W.heap.size O.length P5 _ (HL.out.row (by simp only [List.mem_cons, true_or, or_true])) (HL.out.row (by simp only [List.mem_cons, true_or, or_true])) h5l).mono ?_); rintro e w44 ⟨rfl, hb⟩; replace HL := Lib.hid (HL.out.below hb); clear hb))
          | (go_at_call 19; ((with_reducible refine (CV5.out _ (HL.out.lots (T := 46) (A := A5) (c := c5) (L := L) (by simp only [List.mem_cons, true_or, or_true]))).mono ?_); rintro e w45 ⟨rfl, hb⟩; replace HL := Lib.hid (HL.out.below hb); clear hb))
          | (go_at_call 20; ((with_reducible refine (CV6.out _ (HL.out.lots (T := 45) (A := A6) (c := c6) (L := O) (by simp only [List.mem_cons, true_or, or_true]))).mono ?_); rintro e w46 ⟨rfl, hb⟩; replace HL := Lib.hid (HL.out.below hb); clear hb)))
        clear CV5 CV6 h4l h5l
        obtain ⟨A10, c10, rfl, -⟩ := own_form (HL.out.row (t := 2) (s := 1) (v := v10) (n := O.length) (xs := nums .i64 F1) (by simp only [List.mem_cons, true_or, or_true]))
        obtain ⟨A14, c14, rfl, -⟩ := own_form (HL.out.row (t := 2) (s := 1) (v := v14) (n := O.length) (xs := nums .i64 F2) (by simp only [List.mem_cons, true_or, or_true]))
        obtain ⟨A19, c19, rfl, -⟩ := own_form (HL.out.row (t := 2) (s := 1) (v := v19) (n := O.length) (xs := nums .i64 P3) (by simp only [List.mem_cons, true_or, or_true]))
        obtain ⟨A25, c25, rfl, -⟩ := own_form (HL.out.row (t := 2) (s := 1) (v := v25) (n := O.length) (xs := nums .i64 P4) (by simp only [List.mem_cons, true_or, or_true]))
        obtain ⟨A31, c31, rfl, -⟩ := own_form (HL.out.row (t := 2) (s := 1) (v := v31) (n := O.length) (xs := nums .i64 P5) (by simp only [List.mem_cons, true_or, or_true]))
        go_upto_region 19 with (fail)
        have hzv := HL.out.b.size
        have hO : (w46.alloc (.cells [.slice A10 O.length c10, .slice A14 O.length c14, .slice A19 O.length c19].toArray 29 (0, 0))).ownsRow W.heap.size 29 1 (.slice (some ⟨w46.heap.size, 0, none⟩) 3 3) 3 [.slice A10 O.length c10, .slice A14 O.length c14, .slice A19 O.length c19] := own_of_row (heap_alloc_new w46 (.cells [.slice A10 O.length c10, .slice A14 O.length c14, .slice A19 O.length c19].toArray 29 (0, 0))) rfl hzv (by omega)
        replace HL := Lib.hid ((HL.out.below (below_alloc (Below.refl _ _) (.cells [.slice A10 O.length c10, .slice A14 O.length c14, .slice A19 O.length c19].toArray 29 (0, 0)))).addR ⟨29, 1, .slice (some ⟨w46.heap.size, 0, none⟩) 3 3, 3, [.slice A10 O.length c10, .slice A14 O.length c14, .slice A19 O.length c19]⟩ hO)
        clear hO hzv
        generalize hwl : w46.alloc (.cells (List.toArray [.slice A10 O.length c10, .slice A14 O.length c14, .slice A19 O.length c19]) 29) = wl at *
        clear hwl
        generalize w46.heap.size = g34 at *
        have HV3 := Lib.hid (HL.out.row (t := 29) (s := 1) (v := .slice (some ⟨g34, 0, none⟩) 3 3) (n := 3) (xs := [.slice A10 O.length c10, .slice A14 O.length c14, .slice A19 O.length c19]) (by simp only [List.mem_cons, true_or, or_true]))
        replace HL := Lib.hid (HL.out.sub (R' := [⟨2, 1, (.slice A10 O.length c10), O.length, nums .i64 F1⟩, ⟨2, 1, (.slice A14 O.length c14), O.length, nums .i64 F2⟩, ⟨2, 1, (.slice A19 O.length c19), O.length, nums .i64 P3⟩, ⟨2, 1, (.slice A25 O.length c25), O.length, nums .i64 P4⟩, ⟨2, 1, (.slice A31 O.length c31), O.length, nums .i64 P5⟩, ⟨45, 2, .slice A6 O.length c6, O.length, ltRow O⟩, ⟨46, 2, .slice A5 L.length c5, L.length, ltRow L⟩]) (fun p hp => by
            simp only [List.mem_cons, List.not_mem_nil, or_false] at hp
            rcases hp with rfl | rfl | rfl | rfl | rfl | rfl | rfl <;> simp only [List.mem_cons, true_or, or_true]))
        have hT : ∀ x ∈ ([⟨2, 1, (.slice A10 O.length c10), O.length, nums .i64 F1⟩, ⟨2, 1, (.slice A14 O.length c14), O.length, nums .i64 F2⟩, ⟨2, 1, (.slice A19 O.length c19), O.length, nums .i64 P3⟩, ⟨2, 1, (.slice A25 O.length c25), O.length, nums .i64 P4⟩, ⟨2, 1, (.slice A31 O.length c31), O.length, nums .i64 P5⟩, ⟨45, 2, .slice A6 O.length c6, O.length, ltRow O⟩, ⟨46, 2, .slice A5 L.length c5, L.length, ltRow L⟩] : List Rw), x.t ≠ 29 := fun x hx => by
          simp only [List.mem_cons, List.not_mem_nil, or_false] at hx
          rcases hx with rfl | rfl | rfl | rfl | rfl | rfl | rfl <;> simp
        have HT := Lib.hid hT
        clear hT
        go_upto_region 22 with (at_builtin; refine apM 2 (by decide) rfl (.tmp 254) (.tmp 257) 38 29 rfl (.slice none 0 0) 1 24 W.heap.size Try.underlying38 (by kernel_rfl) rfl (by decide) (.slice (some ⟨g34, 0, none⟩) 3 3) 3 [.slice A10 O.length c10, .slice A14 O.length c14, .slice A19 O.length c19] [.slice A25 O.length c25, .slice A31 O.length c31] rfl rfl rfl rfl (by simp [Value.oneCell']) HV3.out HL.out.b.size (by decide) (by decide) ?_; intro g47 c47 w47 hown hg3; replace HL := Lib.hid ((HL.out.grown HV3.out HT.out hg3).addR ⟨29, 1, .slice (some ⟨g47, 0, none⟩) 5 c47, 5, [.slice A10 O.length c10, .slice A14 O.length c14, .slice A19 O.length c19, .slice A25 O.length c25, .slice A31 O.length c31]⟩ hown); clear hown hg3)
        clear HV3 HT
        have HPK : Hid (∀ k : Nat, k < 5 → ∃ P R A c, [.slice A10 O.length c10, .slice A14 O.length c14, .slice A19 O.length c19, .slice A25 O.length c25, .slice A31 O.length c31][k]? = some (Value.slice A O.length c) ∧ (⟨2, 1, .slice A O.length c, O.length, nums .i64 P⟩ : Rw) ∈ [⟨29, 1, .slice (some ⟨g47, 0, none⟩) 5 c47, 5, [.slice A10 O.length c10, .slice A14 O.length c14, .slice A19 O.length c19, .slice A25 O.length c25, .slice A31 O.length c31]⟩, ⟨2, 1, (.slice A10 O.length c10), O.length, nums .i64 F1⟩, ⟨2, 1, (.slice A14 O.length c14), O.length, nums .i64 F2⟩, ⟨2, 1, (.slice A19 O.length c19), O.length, nums .i64 P3⟩, ⟨2, 1, (.slice A25 O.length c25), O.length, nums .i64 P4⟩, ⟨2, 1, (.slice A31 O.length c31), O.length, nums .i64 P5⟩, ⟨45, 2, .slice A6 O.length c6, O.length, ltRow O⟩, ⟨46, 2, .slice A5 L.length c5, L.length, ltRow L⟩] ∧ PlanOk L O keep (O.length : Int) least low P R ∧ (k = 2 → servT P O.length = (O.length : Int)) ∧ (2 < k → servT P O.length = (O.length : Int)) ∧ (k = 3 → openT O P L.length = least) ∧ (k = 4 → lostT O P R keep L.length = low)) := fun k hk => by
          rcases (show k = 0 ∨ k = 1 ∨ k = 2 ∨ k = 3 ∨ k = 4 by omega) with rfl | rfl | rfl | rfl | rfl
          · exact ⟨F1, R1, A10, c10, rfl, (by simp only [List.mem_cons, true_or, or_true]), HF.out.p1, (fun h => absurd h (by decide)), (fun h => absurd h (by decide)), (fun h => absurd h (by decide)), (fun h => absurd h (by decide))⟩
          · exact ⟨F2, R2, A14, c14, rfl, (by simp only [List.mem_cons, true_or, or_true]), HF.out.p2, (fun h => absurd h (by decide)), (fun h => absurd h (by decide)), (fun h => absurd h (by decide)), (fun h => absurd h (by decide))⟩
          · exact ⟨P3, R3, A19, c19, rfl, (by simp only [List.mem_cons, true_or, or_true]), HF.out.p3.1, (fun _ => HF.out.p3.2), (fun h => absurd h (by decide)), (fun h => absurd h (by decide)), (fun h => absurd h (by decide))⟩
          · exact ⟨P4, R4, A25, c25, rfl, (by simp only [List.mem_cons, true_or, or_true]), HP4.out.1, (fun h => absurd h (by decide)), (fun _ => HP4.out.2.1), (fun _ => HP4.out.2.2), (fun h => absurd h (by decide))⟩
          · exact ⟨P5, R5, A31, c31, rfl, (by simp only [List.mem_cons, true_or, or_true]), HP5.out.1, (fun h => absurd h (by decide)), (fun _ => HP5.out.2.1), (fun h => absurd h (by decide)), (fun _ => HP5.out.2.2)⟩
        clear HP4 HP5
        go_wp2
        go_loopw [35] (fun kv wr => ∃ k : Nat, k ≤ 5 ∧ kv = .int .i64 (k : Int) ∧ Hid (RL W [⟨29, 1, .slice (some ⟨g47, 0, none⟩) 5 c47, 5, [.slice A10 O.length c10, .slice A14 O.length c14, .slice A19 O.length c19, .slice A25 O.length c25, .slice A31 O.length c31]⟩, ⟨2, 1, (.slice A10 O.length c10), O.length, nums .i64 F1⟩, ⟨2, 1, (.slice A14 O.length c14), O.length, nums .i64 F2⟩, ⟨2, 1, (.slice A19 O.length c19), O.length, nums .i64 P3⟩, ⟨2, 1, (.slice A25 O.length c25), O.length, nums .i64 P4⟩, ⟨2, 1, (.slice A31 O.length c31), O.length, nums .i64 P5⟩, ⟨45, 2, .slice A6 O.length c6, O.length, ltRow O⟩, ⟨46, 2, .slice A5 L.length c5, L.length, ltRow L⟩] wr)) (fun i _ => 5 - (intOf i).toNat)
        case atStart => exact ⟨0, by omega, rfl, HL⟩
        case round => as_aux_lemma =>
          clear HL
          obtain ⟨k, hk, rfl, HL⟩ := hrel
          by_cases hkn : k < 5
          · as_aux_lemma =>
            have e1 : decide ((k : Int) < 5) = true := by simp; omega
            have k0 : (0 : Int) ≤ (k : Int) := by omega
            have k1 : (k : Int) < 5 := by omega
            obtain ⟨P, R, A, c, hv, hm, hp, z2, z3, z4, z5⟩ := HPK.out k hkn
            have HP := Lib.hid hp
            have HM := Lib.hid hm
            have HV := Lib.hid hv
            have HZ2 := Lib.hid z2
            have HZ3 := Lib.hid z3
            have HZ4 := Lib.hid z4
            have HZ5 := Lib.hid z5
            have hpz : ∀ j, -9223372036854775808 ≤ gi P j ∧ gi P j ≤ 9223372036854775807 := fun j => by have := hp.bd j; omega
            have CSB := Lib.hid (fun w (h1 : LotsAt w A5 L.length (lS L) (lG L)) (h2 : LotsAt w A6 O.length (lS O) (lG O)) (h3 : RdRow w A (nums .i64 P)) => hp.served ▸ c_iServedBy A5 A6 A L.length O.length O.length c5 c6 c (lS L) (lG L) (lS O) (lG O) P w h1 h2 h3 hp.len HNL.out HNO.out HNO.out HG.out HGO.out hpz)
            have CLI : Hid (∀ w, LotsAt w A5 L.length (lS L) (lG L) → LotsAt w A6 O.length (lS O) (lG O) → RdRow w A (nums .i64 P) → Calls Try.prog 22 #[.slice A5 L.length c5, .slice A6 O.length c6, .slice A O.length c] w fun e w' => ∃ v, e = .returned (.tuple #[v, .int .i64 0]) ∧ w'.ownsRow w.heap.size 2 1 v L.length (nums .i64 R) ∧ Below w.heap.size w w') := fun w h1 h2 h3 => by
              have := c_iLeftIn A5 A6 A L.length O.length O.length c5 c6 c (lS L) (lG L) (lS O) (lG O) P w h1 h2 h3 hp.len HNL.out HNO.out HNO.out HG.out HGO.out hpz
              rw [hp.left] at this
              dsimp only at this
              rw [hp.rlen] at this
              exact this
            have CLS : Hid (∀ w, LotsAt w A5 L.length (lS L) (lG L) → LotsAt w A6 O.length (lS O) (lG O) → RdRow w A (nums .i64 P) → Calls Try.prog 23 #[.slice A5 L.length c5, .slice A6 O.length c6, .slice A O.length c] w fun e w' => ∃ v, e = .returned (.tuple #[v, .int .i64 0]) ∧ w'.ownsRow w.heap.size 2 1 v L.length (nums .i64 R) ∧ Below w.heap.size w w') := fun w h1 h2 h3 => by
              have := c_sLeftIn A5 A6 A L.length O.length O.length c5 c6 c (lS L) (lG L) (lS O) (lG O) P w h1 h2 h3 hp.len HNL.out HNO.out HNO.out HG.out HGO.out hpz
              rw [hp.left] at this
              dsimp only at this
              rw [hp.rlen] at this
              exact this
            have x0 := (own_get (HL.out.row (t := 29) (s := 1) (v := .slice (some ⟨g47, 0, none⟩) 5 c47) (n := 5) (xs := [.slice A10 O.length c10, .slice A14 O.length c14, .slice A19 O.length c19, .slice A25 O.length c25, .slice A31 O.length c31]) (by simp only [List.mem_cons, true_or, or_true])) hv).1
            clear hv hm hp z2 z3 z4 z5 hpz
            go_upto_region 25 with (first
              | (go_at_call 21; ((with_reducible refine (CSB.out _ (HL.out.lots (T := 46) (A := A5) (c := c5) (L := L) (by simp only [List.mem_cons, true_or, or_true])) (HL.out.lots (T := 45) (A := A6) (c := c6) (L := O) (by simp only [List.mem_cons, true_or, or_true])) (own_rd (HL.out.r _ HM.out))).mono ?_); rintro e w50 ⟨rfl, hb⟩; replace HL := Lib.hid (HL.out.below hb); replace x0 := (own_get (HL.out.row (t := 29) (s := 1) (v := .slice (some ⟨g47, 0, none⟩) 5 c47) (n := 5) (xs := [.slice A10 O.length c10, .slice A14 O.length c14, .slice A19 O.length c19, .slice A25 O.length c25, .slice A31 O.length c31]) (by simp only [List.mem_cons, true_or, or_true])) HV.out).1; clear hb)))
            go_upto_region 26 with (first
              | (go_at_call 22; ((with_reducible refine (CLI.out _ (HL.out.lots (T := 46) (A := A5) (c := c5) (L := L) (by simp only [List.mem_cons, true_or, or_true])) (HL.out.lots (T := 45) (A := A6) (c := c6) (L := O) (by simp only [List.mem_cons, true_or, or_true])) (own_rd (HL.out.r _ HM.out))).mono ?_); rintro e w51 ⟨v38, rfl, hO, hb⟩; replace hO := own_mono hO HL.out.b.size; replace HL := Lib.hid ((HL.out.below hb).addR ⟨2, 1, v38, L.length, nums .i64 R⟩ hO); replace x0 := (own_get (HL.out.row (t := 29) (s := 1) (v := .slice (some ⟨g47, 0, none⟩) 5 c47) (n := 5) (xs := [.slice A10 O.length c10, .slice A14 O.length c14, .slice A19 O.length c19, .slice A25 O.length c25, .slice A31 O.length c31]) (by simp only [List.mem_cons, true_or, or_true])) HV.out).1; clear hO hb)))
            go_upto_region 27 with (first
              | (go_at_call 23; ((with_reducible refine (CLS.out _ (HL.out.lots (T := 46) (A := A5) (c := c5) (L := L) (by simp only [List.mem_cons, true_or, or_true])) (HL.out.lots (T := 45) (A := A6) (c := c6) (L := O) (by simp only [List.mem_cons, true_or, or_true])) (own_rd (HL.out.r _ (List.mem_cons_of_mem _ HM.out)))).mono ?_); rintro e w52 ⟨v40, rfl, hO, hb⟩; replace hO := own_mono hO HL.out.b.size; replace HL := Lib.hid ((HL.out.below hb).addR ⟨2, 1, v40, L.length, nums .i64 R⟩ hO); replace x0 := (own_get (HL.out.row (t := 29) (s := 1) (v := .slice (some ⟨g47, 0, none⟩) 5 c47) (n := 5) (xs := [.slice A10 O.length c10, .slice A14 O.length c14, .slice A19 O.length c19, .slice A25 O.length c25, .slice A31 O.length c31]) (by simp only [List.mem_cons, true_or, or_true])) HV.out).1; clear hO hb)))
            obtain ⟨A40, c40, rfl, hA40⟩ := own_form (HL.out.row (t := 2) (s := 1) (v := v40) (n := L.length) (xs := nums .i64 R) (by simp only [List.mem_cons, true_or, or_true]))
            have HA40 := Lib.hid hA40
            have HM2 := Lib.hid (List.mem_cons_of_mem (⟨2, 1, (.slice A40 L.length c40), L.length, nums .i64 R⟩ : Rw) (List.mem_cons_of_mem (⟨2, 1, v38, L.length, nums .i64 R⟩ : Rw) HM.out))
            clear hA40 CSB CLI CLS
            go_upto_region 29 with (first
              | (go_at_call 18; ((with_reducible refine (c_sameNumbers v38 (.slice A40 L.length c40) W.heap.size W.heap.size L.length R _ (HL.out.row (by simp only [List.mem_cons, true_or, or_true])) (HL.out.row (by simp only [List.mem_cons, true_or, or_true])) HNL.out).mono ?_); rintro e w53 ⟨rfl, hb⟩; replace HL := Lib.hid (HL.out.below hb); replace x0 := (own_get (HL.out.row (t := 29) (s := 1) (v := .slice (some ⟨g47, 0, none⟩) 5 c47) (n := 5) (xs := [.slice A10 O.length c10, .slice A14 O.length c14, .slice A19 O.length c19, .slice A25 O.length c25, .slice A31 O.length c31]) (by simp only [List.mem_cons, true_or, or_true])) HV.out).1; clear hb)))
            go_wp2
            go_loop [45, 42] (fun iv sv => ∃ i : Nat, i ≤ O.length ∧ iv = .int .i64 (i : Int) ∧ sv = .int .i64 (servT P i)) (fun i _ => O.length - (intOf i).toNat)
            case atStart => exact ⟨0, by omega, rfl, rfl⟩
            case round => as_aux_lemma =>
              obtain ⟨i, hi, rfl, rfl⟩ := hrel
              by_cases hio : i < O.length
              · as_aux_lemma =>
                have e2 : decide ((i : Int) < (O.length : Int)) = true := by simp; omega
                have i0 : (0 : Int) ≤ (i : Int) := by omega
                have i1 : (i : Int) < (O.length : Int) := by omega
                obtain ⟨ad, had, y0⟩ := (own_rd (HL.out.r _ HM2.out)) i _ (nums_get (zs := P) (j := i) (by rw [HP.out.len]; exact hio))
                have hs : servT P (i + 1) = servT P i + (if 0 ≤ gi P i then 1 else 0) := rfl
                have HS := Lib.hid hs
                have hb := servT_bd P i
                clear hs
                have had2 : A = some ad := had
                clear had HM2 HM
                subst had2
                generalize servT P i = sv at *
                generalize gi P i = pi at *
                cases q : decide (0 ≤ pi)
                · as_aux_lemma =>
                  go_wp2
                  go_round
                  case rel => exact ⟨i + 1, by omega, by go_num, by rw [HS.out, if_neg (of_decide_eq_false q), Int.add_zero]⟩
                  case measure => simp [intOf]; omega
                · as_aux_lemma =>
                  go_wp2
                  go_round
                  case rel => exact ⟨i + 1, by omega, by go_num, by rw [HS.out, if_pos (of_decide_eq_true q)]; (try go_num)⟩
                  case measure => simp [intOf]; omega
              · as_aux_lemma =>
                obtain rfl : i = O.length := by omega
                have e2 : decide ((O.length : Int) < (O.length : Int)) = false := by simp
                go_wp2
                go_loopw [46, 43, 44] (fun iv ov lv wr => ∃ i : Nat, i ≤ L.length ∧ iv = .int .i64 (i : Int) ∧ ov = .int .i64 (openT O P i) ∧ lv = .int .i64 (lostT O P R keep i) ∧ Hid (RL W [⟨2, 1, (.slice A40 L.length c40), L.length, nums .i64 R⟩, ⟨2, 1, v38, L.length, nums .i64 R⟩, ⟨29, 1, .slice (some ⟨g47, 0, none⟩) 5 c47, 5, [.slice A10 O.length c10, .slice A14 O.length c14, .slice A19 O.length c19, .slice A25 O.length c25, .slice A31 O.length c31]⟩, ⟨2, 1, (.slice A10 O.length c10), O.length, nums .i64 F1⟩, ⟨2, 1, (.slice A14 O.length c14), O.length, nums .i64 F2⟩, ⟨2, 1, (.slice A19 O.length c19), O.length, nums .i64 P3⟩, ⟨2, 1, (.slice A25 O.length c25), O.length, nums .i64 P4⟩, ⟨2, 1, (.slice A31 O.length c31), O.length, nums .i64 P5⟩, ⟨45, 2, .slice A6 O.length c6, O.length, ltRow O⟩, ⟨46, 2, .slice A5 L.length c5, L.length, ltRow L⟩] wr)) (fun i _ _ _ => L.length - (intOf i).toNat)
                case atStart => exact ⟨0, by omega, rfl, rfl, rfl, HL⟩
                case round => as_aux_lemma =>
                  clear HL x0 hi hio
                  obtain ⟨i, hi, rfl, rfl, rfl, HL⟩ := hrel
                  have x0 := (own_get (HL.out.row (t := 29) (s := 1) (v := .slice (some ⟨g47, 0, none⟩) 5 c47) (n := 5) (xs := [.slice A10 O.length c10, .slice A14 O.length c14, .slice A19 O.length c19, .slice A25 O.length c25, .slice A31 O.length c31]) (by simp only [List.mem_cons, true_or, or_true])) HV.out).1
                  by_cases hil : i < L.length
                  · as_aux_lemma =>
                    have e3 : decide ((i : Int) < (L.length : Int)) = true := by simp; omega
                    have i0 : (0 : Int) ≤ (i : Int) := by omega
                    have i1 : (i : Int) < (L.length : Int) := by omega
                    go_wp2
                    go_loop [48, 47] (fun jv sv => ∃ j : Nat, j ≤ O.length ∧ jv = .int .i64 (j : Int) ∧ sv = .int .i64 (tot (takeF (lG O) P i) j)) (fun i _ => O.length - (intOf i).toNat)
                    case atStart => exact ⟨0, by omega, rfl, rfl⟩
                    case round => as_aux_lemma =>
                      obtain ⟨j, hj, rfl, rfl⟩ := hrel
                      by_cases hjo : j < O.length
                      · as_aux_lemma =>
                        have e4 : decide ((j : Int) < (O.length : Int)) = true := by simp; omega
                        have j0 : (0 : Int) ≤ (j : Int) := by omega
                        have j1 : (j : Int) < (O.length : Int) := by omega
                        obtain ⟨ad, had, y0⟩ := (own_rd (HL.out.r _ HM2.out)) j _ (nums_get (zs := P) (j := j) (by rw [HP.out.len]; exact hjo))
                        obtain ⟨g6, rfl, -⟩ := HA6.out (by omega)
                        have y1 := (HL.out.lt (T := 45) (g := g6) (c := c6) (L := O) (by simp only [List.mem_cons, true_or, or_true]) hjo).2
                        have hs : tot (takeF (lG O) P i) (j + 1) = tot (takeF (lG O) P i) j + (if gi P j = (i : Int) then lG O j else 0) := rfl
                        have HS := Lib.hid hs
                        have hob := HF.out.ob j
                        have hb := takeT_bd (fun j => ⟨(HF.out.ob j).1, (HF.out.ob j).2.1⟩) P i j
                        clear hs
                        have had2 : A = some ad := had
                        clear had HM2 HM
                        subst had2
                        generalize tot (takeF (lG O) P i) j = sv at *
                        generalize gi P j = pj at *
                        generalize lG O j = lo at *
                        cases q : (pj == (i : Int))
                        · as_aux_lemma =>
                          go_wp2
                          go_round
                          case rel => exact ⟨j + 1, by omega, by go_num, by rw [HS.out, if_neg (fun h => by simp [h] at q), Int.add_zero]⟩
                          case measure => simp [intOf]; omega
                        · as_aux_lemma =>
                          go_wp2
                          go_round
                          case rel => exact ⟨j + 1, by omega, by go_num, by rw [HS.out, if_pos (beq_iff_eq.1 q)]; (try go_num)⟩
                          case measure => simp [intOf]; omega
                      · as_aux_lemma =>
                        obtain rfl : j = O.length := by omega
                        have e4 : decide ((O.length : Int) < (O.length : Int)) = false := by simp
                        obtain ⟨g40, rfl, -⟩ := HA40.out (by omega)
                        obtain ⟨g5, rfl, -⟩ := HA5.out (by omega)
                        have y1 := HL.out.num (g := g40) (n := L.length) (c := c40) (zs := R) (by simp only [List.mem_cons, true_or, or_true]) (j := i) (by rw [HP.out.rlen]; exact hil)
                        have y2 := (HL.out.lt (T := 46) (g := g5) (c := c5) (L := L) (by simp only [List.mem_cons, true_or, or_true]) hil).2
                        have hst := HP.out.stock i hil
                        have hrb := HP.out.rbd i
                        have hlb := HF.out.lb i
                        have hb := takeT_bd (fun j => ⟨(HF.out.ob j).1, (HF.out.ob j).2.1⟩) P i O.length
                        have hob := openT_bd O P i
                        have hlo := lostT_bd HP.out.rbd O P keep i
                        have hs1 : openT O P (i + 1) = openT O P i + (if 0 < tot (takeF (lG O) P i) O.length then 1 else 0) := rfl
                        have hs2 : lostT O P R keep (i + 1) = lostT O P R keep i + (if 0 < tot (takeF (lG O) P i) O.length ∧ gi R i < keep then gi R i else 0) := rfl
                        have HS1 := Lib.hid hs1
                        have HS2 := Lib.hid hs2
                        clear hs1 hs2
                        rw [← hst] at y2 hlb
                        generalize tot (takeF (lG O) P i) O.length = sv at *
                        generalize gi R i = ri at *
                        generalize openT O P i = ov at *
                        generalize lostT O P R keep i = lv at *
                        have hst2 : Hid (sv + ri = lG L i) := hst
                        have hw1 : IntKind.i64.wrap (sv + ri) = sv + ri := IntWalk.i64_in _ (by omega)
                        have hq0 : decide (ri < 0) = false := by simp; omega
                        clear hst
                        cases q1 : decide (0 < sv)
                        · as_aux_lemma =>
                          go_upto_region 50 with (fail)
                          go_quiet (fail)
                          go_wp2
                          go_roundw
                          case rel => exact ⟨i + 1, by omega, by go_num, by rw [HS1.out, if_neg (of_decide_eq_false q1), Int.add_zero], by rw [HS2.out, if_neg (fun h => of_decide_eq_false q1 h.1), Int.add_zero], HL.out.drew _⟩
                          case measure => simp [intOf]; omega
                        · as_aux_lemma =>
                          cases q2 : decide (ri < keep)
                          · as_aux_lemma =>
                            go_upto_region 50 with (fail)
                            go_quiet (fail)
                            go_wp2
                            go_roundw
                            case rel => exact ⟨i + 1, by omega, by go_num, by rw [HS1.out, if_pos (of_decide_eq_true q1)]; (try go_num), by rw [HS2.out, if_neg (fun h => of_decide_eq_false q2 h.2), Int.add_zero], HL.out.drew _⟩
                            case measure => simp [intOf]; omega
                          · as_aux_lemma =>
                            go_upto_region 50 with (fail)
                            go_quiet (fail)
                            go_wp2
                            go_roundw
                            case rel => exact ⟨i + 1, by omega, by go_num, by rw [HS1.out, if_pos (of_decide_eq_true q1)]; (try go_num), by rw [HS2.out, if_pos ⟨of_decide_eq_true q1, of_decide_eq_true q2⟩]; (try go_num), HL.out.drew _⟩
                            case measure => simp [intOf]; omega
                  · as_aux_lemma =>
                    obtain rfl : i = L.length := by omega
                    have e3 : decide ((L.length : Int) < (L.length : Int)) = false := by simp
                    have hle := HP.out.le
                    have htop := HP.out.top
                    have HLE := Lib.hid htop
                    have z2 := HZ2.out
                    have z3 := HZ3.out
                    have z4 := HZ4.out
                    have z5 := HZ5.out
                    clear htop HM HM2 HV HA40 HA5 HA6 HF HPK HG HGO HNL HNO x0 HZ2 HZ3 HZ4 HZ5
                    replace HL := Lib.hid (HL.out.sub (R' := [⟨29, 1, .slice (some ⟨g47, 0, none⟩) 5 c47, 5, [.slice A10 O.length c10, .slice A14 O.length c14, .slice A19 O.length c19, .slice A25 O.length c25, .slice A31 O.length c31]⟩, ⟨2, 1, (.slice A10 O.length c10), O.length, nums .i64 F1⟩, ⟨2, 1, (.slice A14 O.length c14), O.length, nums .i64 F2⟩, ⟨2, 1, (.slice A19 O.length c19), O.length, nums .i64 P3⟩, ⟨2, 1, (.slice A25 O.length c25), O.length, nums .i64 P4⟩, ⟨2, 1, (.slice A31 O.length c31), O.length, nums .i64 P5⟩, ⟨45, 2, .slice A6 O.length c6, O.length, ltRow O⟩, ⟨46, 2, .slice A5 L.length c5, L.length, ltRow L⟩]) (fun p hp => List.mem_cons_of_mem _ (List.mem_cons_of_mem _ hp)))
                    clear HP
                    generalize servT P O.length = sv at *
                    generalize openT O P L.length = ov at *
                    generalize lostT O P R keep L.length = lv at *
                    have q0 : decide ((O.length : Int) < sv) = false := by simp; omega
                    rcases (show k < 2 ∨ k = 2 ∨ k = 3 ∨ k = 4 by omega) with hk2 | rfl | rfl | rfl
                    · as_aux_lemma =>
                      have c2 : ((k : Int) == 2) = false := by simp; omega
                      have c3 : decide ((2 : Int) < (k : Int)) = false := by simp; omega
                      have c4 : ((k : Int) == 3) = false := by simp; omega
                      have c5 : ((k : Int) == 4) = false := by simp; omega
                      clear z2 z3 z4 z5
                      cases qe : (sv == (O.length : Int))
                      · as_aux_lemma =>
                        go_wp2
                        go_roundw
                        case rel => exact ⟨k + 1, by omega, by go_num, HL⟩
                        case measure => (simp [intOf] <;> omega)
                      · as_aux_lemma =>
                        obtain ⟨t1, t2⟩ := HLE.out (beq_iff_eq.1 qe)
                        have u1 : decide (ov < least) = false := by simp; omega
                        have u2 : decide (lv < low) = false := by simp; omega
                        clear t1 t2
                        go_wp2
                        go_roundw
                        case rel => exact ⟨k + 1, by omega, by go_num, HL⟩
                        case measure => (simp [intOf] <;> omega)
                    · as_aux_lemma =>
                      have s2 : (sv != (O.length : Int)) = false := by simp [z2 rfl]
                      clear z2 z3 z4 z5
                      cases qe : (sv == (O.length : Int))
                      · as_aux_lemma =>
                        go_wp2
                        go_roundw
                        case rel => exact ⟨2 + 1, by omega, by go_num, HL⟩
                        case measure => (simp [intOf] <;> omega)
                      · as_aux_lemma =>
                        obtain ⟨t1, t2⟩ := HLE.out (beq_iff_eq.1 qe)
                        have u1 : decide (ov < least) = false := by simp; omega
                        have u2 : decide (lv < low) = false := by simp; omega
                        clear t1 t2
                        go_wp2
                        go_roundw
                        case rel => exact ⟨2 + 1, by omega, by go_num, HL⟩
                        case measure => (simp [intOf] <;> omega)
                    · as_aux_lemma =>
                      have s3 : (sv != (O.length : Int)) = false := by simp [z3 (by decide)]
                      have s4 : (ov != least) = false := by simp [z4 rfl]
                      clear z2 z3 z4 z5
                      cases qe : (sv == (O.length : Int))
                      · as_aux_lemma =>
                        go_wp2
                        go_roundw
                        case rel => exact ⟨3 + 1, by omega, by go_num, HL⟩
                        case measure => (simp [intOf] <;> omega)
                      · as_aux_lemma =>
                        obtain ⟨t1, t2⟩ := HLE.out (beq_iff_eq.1 qe)
                        have u1 : decide (ov < least) = false := by simp; omega
                        have u2 : decide (lv < low) = false := by simp; omega
                        clear t1 t2
                        go_wp2
                        go_roundw
                        case rel => exact ⟨3 + 1, by omega, by go_num, HL⟩
                        case measure => (simp [intOf] <;> omega)
                    · as_aux_lemma =>
                      have s3 : (sv != (O.length : Int)) = false := by simp [z3 (by decide)]
                      have s5 : (lv != low) = false := by simp [z5 rfl]
                      clear z2 z3 z4 z5
                      cases qe : (sv == (O.length : Int))
                      · as_aux_lemma =>
                        go_wp2
                        go_roundw
                        case rel => exact ⟨4 + 1, by omega, by go_num, HL⟩
                        case measure => (simp [intOf] <;> omega)
                      · as_aux_lemma =>
                        obtain ⟨t1, t2⟩ := HLE.out (beq_iff_eq.1 qe)
                        have u1 : decide (ov < least) = false := by simp; omega
                        have u2 : decide (lv < low) = false := by simp; omega
                        clear t1 t2
                        go_wp2
                        go_roundw
                        case rel => exact ⟨4 + 1, by omega, by go_num, HL⟩
                        case measure => (simp [intOf] <;> omega)
          · as_aux_lemma =>
            obtain rfl : k = 5 := by omega
            have e1 : decide (((5 : Nat) : Int) < 5) = false := by simp
            clear HPK
            have CSH : Hid (∀ w, LotsAt w A5 L.length (lS L) (lG L) → LotsAt w A6 O.length (lS O) (lG O) → Calls Try.prog 24 #[.slice A5 L.length c5, .slice A6 O.length c6] w fun e w' => ∃ v, e = .returned (.tuple #[v, .int .i64 0]) ∧ w'.ownsRow w.heap.size 50 2 v 10 (nums .i64 (ordSum (lotSum (lS L) (lG L) L.length) (lS O) (lG O) O.length)) ∧ Below w.heap.size w w') := fun w h1 h2 => by
              have := c_iShadeSums A5 A6 L.length O.length c5 c6 (lS L) (lG L) (lS O) (lG O) w h1 h2 HNL.out HNO.out HG.out HGO.out
              have e : shadesN L.length O.length (lS L) (lG L) (lS O) (lG O) = 10 := by rw [shadesN, HF.out.lok, HF.out.ook]; rfl
              rw [HF.out.shades, e] at this
              exact this
            go_upto_region 55 with (first
              | (go_at_call 24; ((with_reducible refine (CSH.out _ (HL.out.lots (T := 46) (A := A5) (c := c5) (L := L) (by simp only [List.mem_cons, true_or, or_true])) (HL.out.lots (T := 45) (A := A6) (c := c6) (L := O) (by simp only [List.mem_cons, true_or, or_true]))).mono ?_); rintro e w60 ⟨v49, rfl, hO, hb⟩; replace hO := own_mono hO HL.out.b.size; replace HL := Lib.hid ((HL.out.below hb).addR ⟨50, 2, v49, 10, nums .i64 (ordSum (lotSum (lS L) (lG L) L.length) (lS O) (lG O) O.length)⟩ hO); clear hO hb)))
            obtain ⟨A49, c49, rfl, hA49⟩ := own_form (HL.out.row (t := 50) (s := 2) (v := v49) (n := 10) (xs := nums .i64 (ordSum (lotSum (lS L) (lG L) L.length) (lS O) (lG O) O.length)) (by simp only [List.mem_cons, true_or, or_true]))
            obtain ⟨g49, rfl, -⟩ := hA49 (by omega)
            clear CSH hA49 e1
            go_wp2
            go_loopw [51] (fun kv wr => ∃ sh : Nat, sh ≤ 10 ∧ kv = .int .i64 (sh : Int) ∧ Hid (RL W (⟨50, 2, (.slice (some ⟨g49, 0, none⟩) 10 c49), 10, nums .i64 (ordSum (lotSum (lS L) (lG L) L.length) (lS O) (lG O) O.length)⟩ :: [⟨29, 1, .slice (some ⟨g47, 0, none⟩) 5 c47, 5, [.slice A10 O.length c10, .slice A14 O.length c14, .slice A19 O.length c19, .slice A25 O.length c25, .slice A31 O.length c31]⟩, ⟨2, 1, (.slice A10 O.length c10), O.length, nums .i64 F1⟩, ⟨2, 1, (.slice A14 O.length c14), O.length, nums .i64 F2⟩, ⟨2, 1, (.slice A19 O.length c19), O.length, nums .i64 P3⟩, ⟨2, 1, (.slice A25 O.length c25), O.length, nums .i64 P4⟩, ⟨2, 1, (.slice A31 O.length c31), O.length, nums .i64 P5⟩, ⟨45, 2, .slice A6 O.length c6, O.length, ltRow O⟩, ⟨46, 2, .slice A5 L.length c5, L.length, ltRow L⟩]) wr)) (fun i _ => 10 - (intOf i).toNat)
            case atStart => exact ⟨0, by omega, rfl, HL⟩
            case round => as_aux_lemma =>
              clear HL
              obtain ⟨sh, hsh, rfl, HL⟩ := hrel
              by_cases hs10 : sh < 10
              · as_aux_lemma =>
                have e1 : decide ((sh : Int) < 10) = true := by simp; omega
                have k0 : (0 : Int) ≤ (sh : Int) := by omega
                have k1 : (sh : Int) < 10 := by omega
                have x1 := (own_get (HL.out.row (t := 50) (s := 2) (v := (.slice (some ⟨g49, 0, none⟩) 10 c49)) (n := 10) (xs := nums .i64 (ordSum (lotSum (lS L) (lG L) L.length) (lS O) (lG O) O.length)) (by simp only [List.mem_cons, true_or, or_true])) (nums_get (k := .i64) (zs := (ordSum (lotSum (lS L) (lG L) L.length) (lS O) (lG O) O.length)) (j := sh * 2) (by rw [HF.out.slen]; omega))).1
                have x2 := (own_get (HL.out.row (t := 50) (s := 2) (v := (.slice (some ⟨g49, 0, none⟩) 10 c49)) (n := 10) (xs := nums .i64 (ordSum (lotSum (lS L) (lG L) L.length) (lS O) (lG O) O.length)) (by simp only [List.mem_cons, true_or, or_true])) (nums_get (k := .i64) (zs := (ordSum (lotSum (lS L) (lG L) L.length) (lS O) (lG O) O.length)) (j := sh * 2 + 1) (by rw [HF.out.slen]; omega))).1
                rw [show gi (ordSum (lotSum (lS L) (lG L) L.length) (lS O) (lG O) O.length) (sh * 2) = shT L sh L.length from HF.out.have_ sh hs10] at x1
                rw [show gi (ordSum (lotSum (lS L) (lG L) L.length) (lS O) (lG O) O.length) (sh * 2 + 1) = shT O sh O.length from HF.out.want sh hs10] at x2
                have qf : decide (shT L sh L.length < shT O sh O.length) = false := by have h := HF.out.few_ rfl sh hs10; have h2 : shT O sh O.length ≤ shT L sh L.length := h; simp; omega
                go_wp2
                go_loop [54, 52] (fun iv sv => ∃ i : Nat, i ≤ L.length ∧ iv = .int .i64 (i : Int) ∧ sv = .int .i64 (shT L sh i)) (fun i _ => L.length - (intOf i).toNat)
                case atStart => exact ⟨0, by omega, rfl, rfl⟩
                case round => as_aux_lemma =>
                  obtain ⟨i, hi, rfl, rfl⟩ := hrel
                  by_cases hil : i < L.length
                  · as_aux_lemma =>
                    have e2 : decide ((i : Int) < (L.length : Int)) = true := by simp; omega
                    have i0 : (0 : Int) ≤ (i : Int) := by omega
                    have i1 : (i : Int) < (L.length : Int) := by omega
                    obtain ⟨gA, rfl, -⟩ := HA5.out (by omega)
                    obtain ⟨y1, y2⟩ := HL.out.lt (T := 46) (g := gA) (c := c5) (L := L) (by simp only [List.mem_cons, true_or, or_true]) hil
                    have hs : shT L sh (i + 1) = shT L sh i + (if lS L i = (sh : Int) then lG L i else 0) := rfl
                    have HS := Lib.hid hs
                    have hb0 := HF.out.lb i
                    have hb := shT_bd (L := L) (fun j => by have := HF.out.lb j; omega) sh i
                    clear hs
                    generalize shT L sh i = sv at *
                    generalize lS L i = si at *
                    generalize lG L i = wi at *
                    cases q : (si == (sh : Int))
                    · as_aux_lemma =>
                      go_wp2
                      go_round
                      case rel => exact ⟨i + 1, by omega, by go_num, by rw [HS.out, if_neg (fun h => by simp [h] at q), Int.add_zero]⟩
                      case measure => simp [intOf]; omega
                    · as_aux_lemma =>
                      go_wp2
                      go_round
                      case rel => exact ⟨i + 1, by omega, by go_num, by rw [HS.out, if_pos (beq_iff_eq.1 q)]; (try go_num)⟩
                      case measure => simp [intOf]; omega
                  · as_aux_lemma =>
                    obtain rfl : i = L.length := by omega
                    have e2 : decide ((L.length : Int) < (L.length : Int)) = false := by simp
                    go_wp2
                    go_loop [55, 53] (fun iv sv => ∃ i : Nat, i ≤ O.length ∧ iv = .int .i64 (i : Int) ∧ sv = .int .i64 (shT O sh i)) (fun i _ => O.length - (intOf i).toNat)
                    case atStart => exact ⟨0, by omega, rfl, rfl⟩
                    case round => as_aux_lemma =>
                      obtain ⟨i, hi, rfl, rfl⟩ := hrel
                      by_cases hil : i < O.length
                      · as_aux_lemma =>
                        have e2 : decide ((i : Int) < (O.length : Int)) = true := by simp; omega
                        have i0 : (0 : Int) ≤ (i : Int) := by omega
                        have i1 : (i : Int) < (O.length : Int) := by omega
                        obtain ⟨gA, rfl, -⟩ := HA6.out (by omega)
                        obtain ⟨y1, y2⟩ := HL.out.lt (T := 45) (g := gA) (c := c6) (L := O) (by simp only [List.mem_cons, true_or, or_true]) hil
                        have hs : shT O sh (i + 1) = shT O sh i + (if lS O i = (sh : Int) then lG O i else 0) := rfl
                        have HS := Lib.hid hs
                        have hb0 := HF.out.ob i
                        have hb := shT_bd (L := O) (fun j => by have := HF.out.ob j; omega) sh i
                        clear hs
                        generalize shT O sh i = sv at *
                        generalize lS O i = si at *
                        generalize lG O i = wi at *
                        cases q : (si == (sh : Int))
                        · as_aux_lemma =>
                          go_wp2
                          go_round
                          case rel => exact ⟨i + 1, by omega, by go_num, by rw [HS.out, if_neg (fun h => by simp [h] at q), Int.add_zero]⟩
                          case measure => simp [intOf]; omega
                        · as_aux_lemma =>
                          go_wp2
                          go_round
                          case rel => exact ⟨i + 1, by omega, by go_num, by rw [HS.out, if_pos (beq_iff_eq.1 q)]; (try go_num)⟩
                          case measure => simp [intOf]; omega
                      · as_aux_lemma =>
                        obtain rfl : i = O.length := by omega
                        have e2 : decide ((O.length : Int) < (O.length : Int)) = false := by simp
                        go_wp2
                        go_wp2
                        go_roundw
                        case rel => exact ⟨sh + 1, by omega, by go_num, HL⟩
                        case measure => simp [intOf]; omega
              · as_aux_lemma =>
                obtain rfl : sh = 10 := by omega
                have e1 : decide (((10 : Nat) : Int) < 10) = false := by simp
                go_wp2
                go_ret
                exact ⟨rfl, HL.out.b⟩
    · have d1 : decide ((4096 : Int) < (a1.length : Int)) = true := by simp; omega
      have CB1 := Lib.hid (fun w => d1 ▸ c_f6big A1 a1.length cap1 w)
      clear d0 d1
      go_enter Try.func3, Try.ntmps3
      go_wp2_with (first
        | (go_at_call 4; ((with_reducible refine (CB0.out _).mono ?_); rintro e w1 ⟨rfl, rfl⟩))
        | (go_at_call 4; ((with_reducible refine (CB1.out _).mono ?_); rintro e w1 ⟨rfl, rfl⟩)))
      go_ret
      exact ⟨rfl, Below.refl _ _⟩
  · have d0 : decide ((4096 : Int) < (a0.length : Int)) = true := by simp; omega
    have CB0 := Lib.hid (fun w => d0 ▸ c_f6big A0 a0.length cap0 w)
    clear d0
    go_enter Try.func3, Try.ntmps3
    go_wp2_with (go_at_call 4; ((with_reducible refine (CB0.out _).mono ?_); rintro e w1 ⟨rfl, rfl⟩))
    go_ret
    exact ⟨rfl, Below.refl _ _⟩
end Go.Proofs.Ytfdljhepfoppaaa
