/- The law on ladders (printed by mkld.py). -/
import Derived.Test.YtepdgbgolopejaaLdAdd
import Derived.Test.YtepdgbgolopejaaSixBase
import Derived.Test.YtepdgbgolopejaaLoopMask
import Derived.BigRegion
import Derived.StillTailTactics
import Derived.Deep.DeepCutAuto
import Derived.Deep.RegionHeld3
namespace Go.Proofs.Ytepdgbgolopejaa
open Go.RowKit
set_option linter.unusedVariables false
set_option linter.unusedSimpArgs false
set_option maxRecDepth 100000

set_option maxHeartbeats 20000000 in
theorem walk_FnLadders (W : World) (A0 : Option Addr) (cap0 : Nat) (a0 : List Int) (w0 : ∀ z ∈ a0, (Lit.int .u8 z).wf = true) (r0 : RdRow W A0 (nums .u8 a0)) (s0 : a0.length * 1 ≤ 140737488351232) (m0 : a0.length ≤ maxLen) (A1 : Option Addr) (cap1 : Nat) (a1 : List Int) (w1 : ∀ z ∈ a1, (Lit.int .u8 z).wf = true) (r1 : RdRow W A1 (nums .u8 a1)) (s1 : a1.length * 1 ≤ 140737488351232) (m1 : a1.length ≤ maxLen) :
    Calls Try.prog 3 #[.slice A0 a0.length cap0, .slice A1 a1.length cap1] W fun e w' => e = .returned (.bool true) ∧ Below W.heap.size W w' := by
  by_cases h0 : a0.length ≤ 4096
  · have d0 : decide ((4096 : Int) < (a0.length : Int)) = false := by simp; omega
    have CB0 := Lib.hid (fun w => d0 ▸ c_f6big A0 a0.length cap0 w)
    by_cases h1 : a1.length ≤ 4096
    · have d1 : decide ((4096 : Int) < (a1.length : Int)) = false := by simp; omega
      have CB1 := Lib.hid (fun w => d1 ▸ c_f6big A1 a1.length cap1 w)
      have hB0 : BytesAt W A0 a0 := ⟨r0, bytes_bd w0, by omega⟩
      have hB1 : BytesAt W A1 a1 := ⟨r1, bytes_bd w1, by omega⟩
      have CP := Lib.hid (c_P6Fabric A0 cap0 a0 W hB0 hB0.lt)
      have CK := Lib.hid (fun (n : Int) (hn : 1 ≤ n ∧ n ≤ 200) w (hb : Below W.heap.size W w) => c_P6Pick A1 cap1 a1 n w (hB1.below hb) (hB1.below hb).lt hn)
      clear hB0 hB1 w0 r0 s0 m0 w1 r1 s1 m1 d0 d1
      go_enter Try.func3, Try.ntmps3
      go_upto_region 4 with (first
        | (go_at_call 4; ((with_reducible refine (CB0.out _).mono ?_); rintro e w1 ⟨rfl, rfl⟩))
        | (go_at_call 4; ((with_reducible refine (CB1.out _).mono ?_); rintro e w1 ⟨rfl, rfl⟩))
        | (go_at_call 5; ((refine CP.out.mono ?_); rintro e w2 ⟨cast, L, A, c, rfl, hok, hL5, hO, hb⟩; have HO := Lib.hid hO; have HB := Lib.hid hb; have HOK := Lib.hid hok; clear hO hb hok)))
      have HL : Hid (FL W w2.heap.size cast A c L [] (w2.alloc (.cells #[.int .i16 cast, .slice A L.length c] 27 (0, 0)))) := ⟨below_alloc HB.out _, heap_alloc_new w2 _, HO.out.alloc _, fun x hx => by cases hx⟩
      generalize hw3 : w2.alloc (.cells #[.int .i16 cast, .slice A L.length c] 27) = w3 at *
      clear hw3 HO HB
      generalize w2.heap.size = G at *
      have HV := Lib.hid (fabV_of HOK.out)
      obtain ⟨M, hM⟩ : ∃ M, widN cast L L.length = M := ⟨_, rfl⟩
      have HM := Lib.hid hM
      have hM60 : M ≤ 60 := by rw [← hM]; exact HV.out.wid _ (Nat.le_refl _)
      obtain ⟨⟨pb, pm⟩, hp⟩ : ∃ q, worstP (ladN L) (widN cast L L.length) = q := ⟨_, rfl⟩
      have HP := Lib.hid hp
      have n0 : (0 : Int) ≤ (L.length : Int) := by omega
      have n1 : (L.length : Int) < (L.length : Int) + 1 := by omega
      have n5 : (L.length : Int) ≤ 5 := by omega
      have n6 : decide ((L.length : Int) < 0) = false := by simp <;> omega
      clear hM hp CP CB0 CB1
      have f0 := HL.out.f0
      have f1 := HL.out.f1
      go_upto_region 5 with (go_at_call 6; ((with_reducible refine (fl_widthsOf HL.out HOK.out).mono ?_); rintro e w4 ⟨v6, rfl, hL⟩; replace HL := Lib.hid hL; replace f0 := HL.out.f0; replace f1 := HL.out.f1; clear hL))
      obtain ⟨g6, c6, rfl⟩ := HL.out.wform (v := v6) (by simp only [List.mem_cons, true_or, or_true])
      by_cases hM0 : M = 0
      · as_aux_lemma =>
        have hk : (6 : Int) = if widN cast L L.length = 0 then 6 else 0 := by rw [HM.out, if_pos hM0]
        have hpz : pb = 0 ∧ pm = 0 := by
          have := HP.out
          rw [HM.out, hM0] at this
          simp only [worstP, Prod.mk.injEq] at this
          omega
        obtain ⟨rfl, rfl⟩ := hpz
        subst hM0
        have HK := Lib.hid hk
        clear hk
        go_upto_region 8 with (first
          | (go_at_call 7; ((with_reducible refine (fl_worstI HL.out HOK.out HK.out HP.out).mono ?_); rintro e w5 ⟨rfl, hL⟩; replace HL := Lib.hid hL; replace f0 := HL.out.f0; replace f1 := HL.out.f1; clear hL))
          | (go_at_call 8; ((with_reducible refine (fl_worstS HL.out HOK.out HK.out HP.out).mono ?_); rintro e w5 ⟨rfl, hL⟩; replace HL := Lib.hid hL; replace f0 := HL.out.f0; replace f1 := HL.out.f1; clear hL)))
        have x6 := HL.out.wid (g := g6) (cc := c6) (by simp only [List.mem_cons, true_or, or_true]) (r := L.length) (Nat.le_refl _)
        rw [HM.out] at x6
        go_wp2
        go_ret
        exact ⟨rfl, HL.out.b⟩
      · as_aux_lemma =>
        have hk : (0 : Int) = if widN cast L L.length = 0 then 6 else 0 := by rw [HM.out, if_neg hM0]
        have HK := Lib.hid hk
        have hm0 : 0 < M := by omega
        have HWA : Hid (pb < M ∧ ladN L pb = pm) := by
          have h1 := worstP_at (ladN L) (widN cast L L.length)
          have h2 := (worstP_le (ladN L) (widN cast L L.length) 0 (by rw [HM.out]; exact hm0)).1
          have h3 := ladN_pos HV.out (a := 0) (by rw [HM.out]; exact hm0)
          rw [HP.out, HM.out] at h1
          rw [HP.out] at h2
          exact h1 (by dsimp only at h2 ⊢; omega)
        have HWL : Hid (∀ k, k < M → ladN L k ≤ pm ∧ (ladN L k = pm → pb ≤ k)) := fun k hk => by
          have h1 := worstP_le (ladN L) (widN cast L L.length) k (by rw [HM.out]; exact hk)
          have h3 := ladN_pos HV.out (a := k) (by rw [HM.out]; exact hk)
          rw [HP.out] at h1
          exact ⟨h1.1, fun e => h1.2 e h3⟩
        clear hk hM0
        go_upto_region 8 with (first
          | (go_at_call 7; ((with_reducible refine (fl_worstI HL.out HOK.out HK.out HP.out).mono ?_); rintro e w5 ⟨rfl, hL⟩; replace HL := Lib.hid hL; replace f0 := HL.out.f0; replace f1 := HL.out.f1; clear hL))
          | (go_at_call 8; ((with_reducible refine (fl_worstS HL.out HOK.out HK.out HP.out).mono ?_); rintro e w5 ⟨rfl, hL⟩; replace HL := Lib.hid hL; replace f0 := HL.out.f0; replace f1 := HL.out.f1; clear hL)))
        have x6 := HL.out.wid (g := g6) (cc := c6) (by simp only [List.mem_cons, true_or, or_true]) (r := L.length) (Nat.le_refl _)
        rw [HM.out] at x6
        have dM : decide (0 < (M : Int)) = true := by simp; omega
        go_wp2
        clear x6 dM HK HP f0 f1
        refine loop_mask [none, none, none, none, some 4, none, none, none, none, none, none, none, none, none, none, some 15, some 16, some 17, some 18, some 19, some 20, some 21, some 22, some 23, some 24, some 25, some 26, some 27, some 28, some 29, some 30, some 31, some 32, some 33, some 34, some 35, some 36, some 37, some 38, some 39, some 40, some 41, none, none, none, none, none, none, none, none, none, none, none, none, none, none, none, none, none, none, none, none, none, none, none, none, none, none, none, none, none, none, none, none, none, none, none, none, none, none, none, none, none, none, none, none, none, none, none, none, none, none, none, none, none, none, none, none, none, none, none, none, none, none, none, none, none, none, none, none, none, some 111, some 112, some 113, some 114, some 115, some 116, some 117, some 118, some 119, some 120, some 121, some 122, some 123, some 124, some 125, some 126, some 127, some 128, some 129, some 130, some 131, some 132, some 133, some 134, some 135, some 136, some 137, some 138, some 139, some 140, some 141, some 142, some 143, some 144, some 145, some 146, some 147, some 148, some 149, some 150, some 151, some 152, some 153, some 154, some 155, some 156, some 157, some 158, some 159, some 160, some 161, some 162, some 163, some 164, some 165, some 166, some 167, some 168, some 169, some 170, some 171, some 172, some 173, some 174, some 175, some 176, some 177, some 178, some 179, some 180, some 181, some 182, some 183, some 184, some 185, some 186, some 187, some 188, some 189, some 190, some 191, some 192, some 193, some 194, some 195, some 196, some 197, some 198, some 199, some 200, some 201, some 202, some 203, some 204, some 205, some 206, some 207, some 208, some 209, some 210, some 211, some 212, some 213, some 214, some 215, some 216, some 217, some 218, some 219, some 220, some 221, some 222, some 223, some 224, some 225, some 226, some 227, some 228, some 229, some 230, some 231, some 232, some 233, some 234, some 235, some 236, some 237, some 238, some 239, some 240, some 241, some 242, some 243, some 244, some 245, some 246, some 247, some 248, some 249, some 250, some 251, some 252, some 253, some 254, some 255, some 256, some 257, some 258, some 259, some 260, some 261, some 262, some 263, some 264, some 265, some 266, some 267, some 268, some 269, some 270, some 271, some 272, some 273, some 274, some 275, some 276, some 277, some 278, some 279, some 280, some 281, some 282, some 283, some 284, some 285, some 286, some 287, some 288, some 289, some 290, some 291, some 292, some 293, some 294, some 295, some 296, some 297, some 298, some 299, some 300, some 301, some 302, some 303, some 304, some 305, some 306, some 307, some 308, some 309, some 310, some 311, some 312, some 313, some 314, some 315, some 316, some 317, some 318, some 319, some 320, some 321, some 322, some 323, some 324, some 325, some 326, some 327, some 328, some 329, some 330, some 331, some 332, some 333, some 334, some 335, some 336, some 337, some 338, some 339, some 340, some 341, some 342, some 343, some 344, some 345, some 346, some 347, some 348, some 349, some 350, some 351, some 352, some 353, some 354, some 355, some 356, some 357, some 358, some 359, some 360, some 361, some 362, some 363, some 364, some 365, some 366, some 367, some 368, some 369, some 370, some 371, some 372, some 373, some 374, some 375, some 376, some 377, some 378, some 379, some 380, some 381, some 382, some 383, some 384, some 385, some 386, some 387, some 388, some 389, some 390, some 391, some 392, some 393, some 394, some 395, some 396, some 397, some 398, some 399, some 400, some 401, some 402, some 403, some 404, some 405, some 406, some 407, some 408, some 409, some 410, some 411, some 412, some 413, some 414, some 415, some 416, some 417, some 418, some 419, some 420, some 421, some 422, some 423, some 424, some 425, some 426, some 427, some 428, some 429, some 430, some 431, some 432, some 433, some 434, some 435, some 436, some 437, some 438, some 439, some 440, some 441, some 442, some 443, some 444, some 445, some 446, some 447, some 448, some 449, some 450, some 451, some 452, some 453, some 454, some 455, some 456, some 457, some 458, some 459, some 460, some 461, none, none, none, none, none, none, none, none, none, none, none, none, none, none, none, none, none, none, none, none, none, none, none, none, none, none, none, none, none, none, none, none, none, none, none, none, none, none, none, none, none, none, none, none, none, none, none, none, none, none, none, none, none, none, none, none, none, none, none, none] (fun f wr => ∃ k : Nat, k ≤ M ∧ f 15 = .int .i64 (k : Int) ∧ Hid (FL W G cast A c L [wdR (.slice (some ⟨g6, 0, none⟩) (L.length + 1) c6) cast L] wr)) (fun a => M - (intOf (a.tmps.getD 15 undef)).toNat) (by kernel_rfl) ⟨0, by omega, rfl, HL⟩ ?_
        clear HL
        intro f wr m0 hrel hm0'
        as_aux_lemma =>
          obtain ⟨k, hk, h15, HL⟩ := hrel
          have hmu : Hid (m0 = M - k) := by
            rw [Hid, hm0']
            show M - (intOf (f 15)).toNat = M - k
            rw [h15]
            simp [intOf]
          clear hm0'
          dsimp only [maskL]
          rw [h15]
          clear h15
          have f0 := HL.out.f0
          have f1 := HL.out.f1
          have x6 := HL.out.wid (g := g6) (cc := c6) (by simp only [List.mem_cons, true_or, or_true]) (r := L.length) (Nat.le_refl _)
          rw [HM.out] at x6
          by_cases hkM : k < M
          · as_aux_lemma =>
            have e1 : decide ((k : Int) < (M : Int)) = true := by simp; omega
            have k60 : (k : Int) < 60 := by omega
            have hka : k < widN cast L L.length := by rw [HM.out]; exact hkM
            have HKA := Lib.hid hka
            have HLF := Lib.hid (ladF_of HV.out hka)
            obtain ⟨P, hP⟩ : ∃ P, ladP L k (L.length + 1) = P := ⟨_, rfl⟩
            have HPP := Lib.hid hP
            rw [hP] at HLF
            have HWk : Hid (P.length ≤ pm ∧ (P.length = pm → pb ≤ k) ∧ (pb = k → P.length = pm)) := by
              have h1 := HWL.out k hkM
              have h2 := HWA.out.2
              have e : ladN L k = P.length := by rw [ladN, hP]
              rw [e] at h1
              exact ⟨h1.1, h1.2, fun e2 => by rw [← e, ← e2]; exact h2⟩
            clear hP hka
            go_upto_region 17 with (first
              | (go_at_call 9; ((with_reducible refine (fl_ladI HL.out HOK.out HKA.out HPP.out).mono ?_); rintro e w11 ⟨v16, rfl, hL⟩; replace HL := Lib.hid hL; replace f0 := HL.out.f0; replace f1 := HL.out.f1; clear hL))
              | (go_at_call 10; ((with_reducible refine (fl_ladS HL.out HOK.out HKA.out HPP.out).mono ?_); rintro e w12 ⟨v18, rfl, hL⟩; replace HL := Lib.hid hL; replace f0 := HL.out.f0; replace f1 := HL.out.f1; clear hL)))
            have hPp := HLF.out.pos
            have hPl := HLF.out.len
            obtain ⟨g18, c18, rfl⟩ := HL.out.lform (v := v18) (P := P) (by simp only [List.mem_cons, true_or, or_true]) hPp
            go_cut [194] (fun p wx => p = .bool false ∧ Hid (FL W G cast A c L [lpR (.slice (some ⟨g18, 0, none⟩) P.length c18) P, lpR v16 P, wdR (.slice (some ⟨g6, 0, none⟩) (L.length + 1) c6) cast L] wx))
            case first => as_aux_lemma =>
              have hy := HL.out.loop (g := g18) (cc := c18) (P := P) (by simp only [List.mem_cons, true_or, or_true]) hPp
              rw [HLF.out.hd] at hy
              obtain ⟨y0, y1⟩ := hy
              rw [Nat.zero_mul] at y0
              rw [Nat.zero_mul, Nat.zero_add] at y1
              have e2 : decide ((P.length : Int) < 1) = false := by simp; omega
              have e3 : decide (pm < P.length) = false := by have := HWk.out.1; simp; omega
              have hw1 := HWk.out.1
              have hw2 := HWk.out.2.1
              have hw3 := HWk.out.2.2
              by_cases hpm : P.length = pm
              · have hle := hw2 hpm
                subst hpm
                have e4 : decide (k < pb) = false := by simp; omega
                clear hw1 hw2 hw3 hle
                by_cases hkb : k = pb
                · subst hkb
                  as_aux_lemma =>
                  go_wp2_with (go_at_call 11; ((with_reducible refine (fl_same (v := v16) (u := .slice (some ⟨g18, 0, none⟩) P.length c18) (P := P) HL.out (by simp only [List.mem_cons, true_or, or_true]) (by simp only [List.mem_cons, true_or, or_true]) hPl).mono ?_); rintro e w13 ⟨rfl, hL⟩; replace HL := Lib.hid hL; replace f0 := HL.out.f0; replace f1 := HL.out.f1; have hy := HL.out.loop (g := g18) (cc := c18) (P := P) (by simp only [List.mem_cons, true_or, or_true]) hPp; rw [HLF.out.hd] at hy; obtain ⟨y0, y1⟩ := hy; rw [Nat.zero_mul] at y0; rw [Nat.zero_mul, Nat.zero_add] at y1; clear hL))
                  go_meet
                  exact ⟨rfl, HL⟩
                · have e5 : ((k : Int) == (pb : Int)) = false := by simp; omega
                  clear hkb
                  go_wp2_with (go_at_call 11; ((with_reducible refine (fl_same (v := v16) (u := .slice (some ⟨g18, 0, none⟩) P.length c18) (P := P) HL.out (by simp only [List.mem_cons, true_or, or_true]) (by simp only [List.mem_cons, true_or, or_true]) hPl).mono ?_); rintro e w13 ⟨rfl, hL⟩; replace HL := Lib.hid hL; replace f0 := HL.out.f0; replace f1 := HL.out.f1; have hy := HL.out.loop (g := g18) (cc := c18) (P := P) (by simp only [List.mem_cons, true_or, or_true]) hPp; rw [HLF.out.hd] at hy; obtain ⟨y0, y1⟩ := hy; rw [Nat.zero_mul] at y0; rw [Nat.zero_mul, Nat.zero_add] at y1; clear hL))
                  go_meet
                  exact ⟨rfl, HL⟩
              · have e4 : ((P.length : Int) == (pm : Int)) = false := by simp; omega
                have e5 : ((k : Int) == (pb : Int)) = false := by
                  have : ¬ pb = k := fun e => hpm (hw3 e)
                  simp; omega
                clear hw1 hw2 hw3 hpm
                go_wp2_with (go_at_call 11; ((with_reducible refine (fl_same (v := v16) (u := .slice (some ⟨g18, 0, none⟩) P.length c18) (P := P) HL.out (by simp only [List.mem_cons, true_or, or_true]) (by simp only [List.mem_cons, true_or, or_true]) hPl).mono ?_); rintro e w13 ⟨rfl, hL⟩; replace HL := Lib.hid hL; replace f0 := HL.out.f0; replace f1 := HL.out.f1; have hy := HL.out.loop (g := g18) (cc := c18) (P := P) (by simp only [List.mem_cons, true_or, or_true]) hPp; rw [HLF.out.hd] at hy; obtain ⟨y0, y1⟩ := hy; rw [Nat.zero_mul] at y0; rw [Nat.zero_mul, Nat.zero_add] at y1; clear hL))
                go_meet
                exact ⟨rfl, HL⟩
            case rest => as_aux_lemma =>
              obtain ⟨rfl, HL⟩ := hcut
              clear HWk x6 e1
              clear hPp
              go_wp2
              refine loop_mask [none, none, none, none, some 4, none, none, none, none, none, none, none, none, none, none, none, none, none, none, none, some 20, some 21, some 22, some 23, some 24, some 25, some 26, none, none, none, none, none, none, none, none, none, none, none, none, none, none, none, none, none, none, none, none, none, none, none, none, none, none, none, none, none, none, none, none, none, none, none, none, none, none, none, none, none, none, none, none, none, none, none, none, none, none, none, none, none, none, none, none, none, none, none, none, none, none, none, none, none, none, none, none, none, none, none, none, none, none, none, none, none, none, none, none, none, none, none, none, none, none, none, none, none, none, none, none, none, none, none, none, none, none, none, none, none, none, none, none, none, none, none, none, none, none, none, none, none, none, none, none, none, none, none, none, none, none, none, none, none, none, none, none, none, none, none, none, none, none, none, none, none, none, none, none, none, none, none, none, none, none, none, none, none, none, none, none, none, none, none, none, none, none, none, none, none, none, none, none, none, none, none, none, some 195, some 196, some 197, some 198, some 199, some 200, some 201, some 202, some 203, some 204, some 205, some 206, some 207, some 208, some 209, some 210, some 211, some 212, some 213, some 214, some 215, some 216, some 217, some 218, some 219, some 220, some 221, some 222, some 223, some 224, some 225, some 226, some 227, some 228, some 229, some 230, some 231, some 232, some 233, some 234, some 235, some 236, some 237, some 238, some 239, some 240, some 241, some 242, some 243, some 244, some 245, some 246, some 247, some 248, some 249, some 250, some 251, some 252, some 253, some 254, some 255, some 256, some 257, some 258, some 259, some 260, some 261, some 262, some 263, some 264, some 265, some 266, some 267, some 268, some 269, some 270, some 271, some 272, some 273, some 274, some 275, some 276, some 277, some 278, some 279, some 280, some 281, some 282, some 283, some 284, some 285, some 286, some 287, some 288, some 289, some 290, some 291, some 292, some 293, some 294, some 295, some 296, some 297, some 298, none, none, none, none, none, none, none, none, none, none, none, none, none, none, none, none, none, none, none, none, none, none, none, none, none, none, none, none, none, none, none, none, none, none, none, none, none, none, none, none, none, none, none, none, none, none, none, none, none, none, none, none, none, none, none, none, none, none, none, none, none, none, none, none, none, none, none, none, none, none, none, none, none, none, none, none, none, none, none, none, none, none, none, none, none, none, none, none, none, none, none, none, none, none, none, none, none, none, none, none, none, none, none, none, none, none, none, none, none, none, none, none, none, none, none, none, none, none, none, none, none, none, none, none, none, none, none, none, none, none, none, none, none, none, none, none, none, none, none, none, none, none, none, none, none, none, none, none, none, none, none, none, none, none, none, none, none, none, none, none, none, none, none, none, none, none, none, none, none, none, none, none, none, none, none, none, none, none, none, none, none, none, none, none, none, none, none, none, none, none, none, none, none, none, none, none, none, none, none, none, none, none, none, none, none, none, none, none, none, none, none, none, none, none, none, none, none, none, none, none, none, none, none] (fun f2 wr => ∃ i : Nat, 1 ≤ i ∧ i ≤ P.length ∧ f2 20 = .int .i64 (i : Int) ∧ Hid (FL W G cast A c L [lpR (.slice (some ⟨g18, 0, none⟩) P.length c18) P, lpR v16 P, wdR (.slice (some ⟨g6, 0, none⟩) (L.length + 1) c6) cast L] wr)) (fun a => P.length - (intOf (a.tmps.getD 20 undef)).toNat) (by kernel_rfl) ⟨1, Nat.le_refl _, HLF.out.pos, rfl, HL⟩ ?_
              clear HL
              intro f2 wr m2 hrel hm2'
              as_aux_lemma =>
                obtain ⟨i, hi1, hil, h20, HL⟩ := hrel
                have hmu2 : Hid (m2 = P.length - i) := by
                  rw [Hid, hm2']
                  show P.length - (intOf (f2 20)).toNat = P.length - i
                  rw [h20]
                  simp [intOf]
                clear hm2'
                dsimp only [maskL]
                rw [h20]
                clear h20
                by_cases hiP : i < P.length
                · as_aux_lemma =>
                  have e2 : decide (i < P.length) = true := by simpa using hiP
                  have e2' : decide ((i : Int) < (P.length : Int)) = true := by simp; omega
                  obtain ⟨q, hq⟩ : ∃ q, i = q + 1 := ⟨i - 1, by omega⟩
                  obtain ⟨yi0, yi1⟩ := HL.out.loop (g := g18) (cc := c18) (P := P) (by simp only [List.mem_cons, true_or, or_true]) hiP
                  obtain ⟨yq0, yq1⟩ := HL.out.loop (g := g18) (cc := c18) (P := P) (by simp only [List.mem_cons, true_or, or_true]) (i := q) (by omega)
                  have hbi := HLF.out.bd i hiP
                  have hbq := HLF.out.bd q (by omega)
                  have hinc := HLF.out.inc q (by omega)
                  have hhang := HLF.out.hang q (by omega)
                  rw [← hq] at hinc hhang
                  obtain ⟨⟨ri, xi⟩, hpi⟩ : ∃ t, P.getD i (0, 0) = t := ⟨_, rfl⟩
                  obtain ⟨⟨rq, xq⟩, hpq⟩ : ∃ t, P.getD q (0, 0) = t := ⟨_, rfl⟩
                  rw [hpi] at yi0 yi1 hbi hinc hhang
                  rw [hpq] at yq0 yq1 hbq hinc
                  have HHang : Hid (hangB L P ri xi i = true) := hhang
                  have HPI := Lib.hid hpi
                  have hahead : ri < rq ∨ ri = rq ∧ xq < xi := hinc.1
                  have hrn : ri < L.length := hinc.2
                  have hxw : xi < widN cast L ri := hbi.2.1
                  have r30 : (ri : Int) ≤ 30 := by have : ri ≤ 30 := hbi.2.2.1; omega
                  have x60 : (xi : Int) < 60 := by have : xi < 60 := hbi.2.2.2; omega
                  have rq30 : (rq : Int) ≤ 30 := by have : rq ≤ 30 := hbq.2.2.1; omega
                  have xq60 : (xq : Int) < 60 := by have : xq < 60 := hbq.2.2.2; omega
                  have wI : IntKind.i64.wrap ((i : Int) - 1) = (q : Int) := by
                    rw [show (i : Int) - 1 = (q : Int) by omega]
                    exact IntWalk.i64_in _ (by omega)
                  have i0 : (0 : Int) ≤ (i : Int) := by omega
                  have i1 : (i : Int) < (P.length : Int) := by omega
                  have q0 : (0 : Int) ≤ (q : Int) := by omega
                  have q1 : (q : Int) < (P.length : Int) := by omega
                  clear hq hbi hbq hinc hhang hpi hpq
                  go_upto_region 22 with fail
                  go_cut [240] (fun p wx => p = .bool false ∧ ∃ nq, wx = wr.drewN nq)
                  case first => as_aux_lemma =>
                    rcases hahead with hr | ⟨hr, hx⟩
                    · have e3 : decide (rq < ri) = false := by simp; omega
                      have e3' : decide ((rq : Int) < (ri : Int)) = false := by simp; omega
                      have e4 : ((ri : Int) == (rq : Int)) = false := by simp; omega
                      clear hr
                      go_quiet (fail)
                      go_wp2
                      go_meet
                      exact ⟨rfl, _, rfl⟩
                    · subst hr
                      have e5 : decide (xi ≤ xq) = false := by simp; omega
                      have e5' : decide ((xi : Int) ≤ (xq : Int)) = false := by simp; omega
                      clear hx
                      go_quiet (fail)
                      go_wp2
                      go_meet
                      exact ⟨rfl, _, rfl⟩
                  case rest => as_aux_lemma =>
                    obtain ⟨rfl, nq, rfl⟩ := hcut
                    clear yi0 yi1 yq0 yq1 hahead wI q0 q1 rq30 xq60
                    replace HL := Lib.hid (HL.out.drewN nq)
                    generalize wr.drewN nq = wq at *
                    go_upto_region 24 with fail
                    have HLd := Lib.hid HL.out.drew
                    have HSd : Hid (LS4 G cast A L.length c g18 i (.int .i16 (ri : Int)) (.int .i16 (xi : Int)) wq.drew) := ⟨⟨HL.out.f0, HL.out.f1⟩, by
                      have h := HL.out.loop (g := g18) (cc := c18) (P := P) (by simp only [List.mem_cons, true_or, or_true]) hiP
                      rw [HPI.out] at h
                      exact h⟩
                    clear HL
                    (first
                      | go_region_held3 (fun w' => (w'.cell? ⟨G, 0, none⟩ = some (.int .i16 cast) ∧ w'.cell? ⟨G, 1, none⟩ = some (.slice A L.length c)) ∧ w'.cell? ⟨g18, i * 2, none⟩ = some (.int .i16 (ri : Int)) ∧ w'.cell? ⟨g18, i * 2 + 1, none⟩ = some (.int .i16 (xi : Int)))
                          (with_reducible exact HSd.out)
                          (first
                            | (go_at_call 12; ((with_reducible refine (fl_goesTo HLd.out HOK.out hrn hxw).mono ?_); rintro e w14 ⟨z, rfl, hz, hL, hb⟩; replace HSd := Lib.hid (ls4_below hb HSd.out); replace HLd := Lib.hid hL; have HZ := Lib.hid hz; clear hb hL hz)))
                      | fail)
                    have dz : decide (z < 0) = false := by have := HZ.out; simp; omega
                    clear HSd
                    go_wp2
                    go_loopw [23, 24] (fun hv jv wr => ∃ j : Nat, j ≤ i ∧ jv = .int .i64 (j : Int) ∧ hv = .bool (hangB L P ri xi j) ∧ Hid (FL W G cast A c L [lpR (.slice (some ⟨g18, 0, none⟩) P.length c18) P, lpR v16 P, wdR (.slice (some ⟨g6, 0, none⟩) (L.length + 1) c6) cast L] wr)) (fun _ jv _ => i - (intOf jv).toNat)
                    case atStart => exact ⟨0, by omega, rfl, rfl, HLd⟩
                    case round => as_aux_lemma =>
                      clear HLd
                      obtain ⟨j, hj, rfl, rfl, HL⟩ := hrel
                      by_cases hji : j < i
                      · as_aux_lemma =>
                        have e6 : decide (j < i) = true := by simpa using hji
                        have e6' : decide ((j : Int) < (i : Int)) = true := by simp; omega
                        have hjP : j < P.length := by omega
                        obtain ⟨yj0, yj1⟩ := HL.out.loop (g := g18) (cc := c18) (P := P) (by simp only [List.mem_cons, true_or, or_true]) hjP
                        obtain ⟨⟨rj, xj⟩, hpj⟩ : ∃ t, P.getD j (0, 0) = t := ⟨_, rfl⟩
                        have hbj := HLF.out.bd j hjP
                        have hsu := hangB_succ L P ri xi j
                        rw [hpj] at yj0 yj1 hbj hsu
                        dsimp only at hsu
                        have HSU := Lib.hid hsu
                        have HPJ := Lib.hid hpj
                        have hrj : rj ≤ L.length := hbj.1
                        have hxj : xj < widN cast L rj := hbj.2.1
                        have rj30 : (rj : Int) ≤ 30 := by have : rj ≤ 30 := hbj.2.2.1; omega
                        have xj60 : (xj : Int) < 60 := by have : xj < 60 := hbj.2.2.2; omega
                        have j0 : (0 : Int) ≤ (j : Int) := by omega
                        have j1 : (j : Int) < (P.length : Int) := by omega
                        have hFl := frm_len HV.out (r := rj) (x := xj) hrj
                        clear hbj hpj hsu
                        obtain ⟨F, hF⟩ : ∃ F, frm L rj xj = F := ⟨_, rfl⟩
                        have HFF := Lib.hid hF
                        go_upto_region 31 with fail
                        have HLd := Lib.hid HL.out.drew
                        have HSd : Hid (LS4 G cast A L.length c g18 j (.int .i16 (rj : Int)) (.int .i16 (xj : Int)) wr.drew) := ⟨⟨HL.out.f0, HL.out.f1⟩, yj0, yj1⟩
                        clear HL yj0 yj1
                        (first
                          | go_region_held3 (fun w' => (w'.cell? ⟨G, 0, none⟩ = some (.int .i16 cast) ∧ w'.cell? ⟨G, 1, none⟩ = some (.slice A L.length c)) ∧ w'.cell? ⟨g18, j * 2, none⟩ = some (.int .i16 (rj : Int)) ∧ w'.cell? ⟨g18, j * 2 + 1, none⟩ = some (.int .i16 (xj : Int)))
                              (with_reducible exact HSd.out)
                              (first
                                | (go_at_call 13; ((with_reducible refine (fl_fromOf HLd.out HOK.out hrj hxj).mono ?_); rintro e w15 ⟨v25, rfl, hL, hb⟩; replace HSd := Lib.hid (ls4_below hb HSd.out); replace HLd := Lib.hid hL; clear hb hL)))
                          | fail)
                        rw [hF] at HLd hFl
                        rw [hF] at HSU
                        clear hF
                        go_upto_region 34 with fail
                        have CH := fun n => Lib.hid (flipw (fl_hasNumber (v := v25) (F := F) (HLd.out.drewN n) (by simp only [List.mem_cons, true_or, or_true]) hFl xi))
                        obtain ⟨yj0, yj1⟩ := HSd.out.2
                        obtain ⟨yi0, yi1⟩ := HLd.out.loop (g := g18) (cc := c18) (P := P) (by simp only [List.mem_cons, true_or, or_true]) hiP
                        rw [HPI.out] at yi0 yi1
                        have wR : IntKind.i16.wrap ((ri : Int) + 1) = (ri : Int) + 1 := IntWalk.i16_in _ (by omega)
                        have wX : IntKind.i64.wrap (xi : Int) = (xi : Int) := IntWalk.i64_in _ (by omega)
                        cases hb : hangB L P ri xi j
                        · by_cases hrr : rj = ri + 1
                          · have e7 : ((rj : Int) == (ri : Int) + 1) = true := by simp; omega
                            have HN : Hid (hangB L P ri xi (j + 1) = F.contains xi) := by rw [Hid, HSU.out, hb, decide_eq_true hrr]; simp
                            clear hrr hb
                            generalize F.contains xi = bF at *
                            go_quiet (first | (go_at_call 14; with_reducible exact Calls.quiet_of_same (CH _).out))
                            go_wp2
                            go_roundw
                            case rel => exact ⟨j + 1, by omega, by go_num, by rw [HN.out], (HLd.out.drewN _).tail⟩
                            case measure => simp [intOf]; omega
                          · have e7 : ((rj : Int) == (ri : Int) + 1) = false := by simp; omega
                            have HN : Hid (hangB L P ri xi (j + 1) = false) := by rw [Hid, HSU.out, hb, decide_eq_false hrr]; simp
                            clear hrr hb
                            go_quiet (first | (go_at_call 14; with_reducible exact Calls.quiet_of_same (CH _).out))
                            go_wp2
                            go_roundw
                            case rel => exact ⟨j + 1, by omega, by go_num, by rw [HN.out], (HLd.out.drewN _).tail⟩
                            case measure => simp [intOf]; omega
                        · have HN : Hid (hangB L P ri xi (j + 1) = true) := by rw [Hid, HSU.out, hb]; simp
                          clear hb
                          go_quiet (first | (go_at_call 14; with_reducible exact Calls.quiet_of_same (CH _).out))
                          go_wp2
                          go_roundw
                          case rel => exact ⟨j + 1, by omega, by go_num, by rw [HN.out], (HLd.out.drewN _).tail⟩
                          case measure => simp [intOf]; omega
                      · as_aux_lemma =>
                        obtain rfl : j = i := by omega
                        have e6 : decide ((j : Int) < (j : Int)) = false := by simp
                        have hh : hangB L P ri xi j = true := HHang.out
                        rw [hh]
                        go_wp2
                        refine mask_end (by kernel_rfl) ⟨j + 1, by omega, by omega, (by show Value.int .i64 ((j : Int) + 1) = _; go_num), HL⟩ ?_
                        rw [hmu2.out]
                        show P.length - (intOf (.int .i64 ((j : Int) + 1))).toNat < P.length - j
                        simp [intOf]; omega
                · as_aux_lemma =>
                  obtain rfl : i = P.length := by omega
                  clear hmu2 hi1 hil hiP
                  have e2 : decide ((P.length : Int) < (P.length : Int)) = false := by simp
                  go_wp2
                  clear e2
                  refine loop_mask [none, none, none, none, some 4, none, none, none, none, none, none, none, none, none, none, none, none, none, none, none, none, none, none, none, none, none, none, some 27, some 28, some 29, some 30, some 31, some 32, some 33, some 34, some 35, none, none, none, none, none, none, none, none, none, none, none, none, none, none, none, none, none, none, none, none, none, none, none, none, none, none, none, none, none, none, none, none, none, none, none, none, none, none, none, none, none, none, none, none, none, none, none, none, none, none, none, none, none, none, none, none, none, none, none, none, none, none, none, none, none, none, none, none, none, none, none, none, none, none, none, none, none, none, none, none, none, none, none, none, none, none, none, none, none, none, none, none, none, none, none, none, none, none, none, none, none, none, none, none, none, none, none, none, none, none, none, none, none, none, none, none, none, none, none, none, none, none, none, none, none, none, none, none, none, none, none, none, none, none, none, none, none, none, none, none, none, none, none, none, none, none, none, none, none, none, none, none, none, none, none, none, none, none, none, none, none, none, none, none, none, none, none, none, none, none, none, none, none, none, none, none, none, none, none, none, none, none, none, none, none, none, none, none, none, none, none, none, none, none, none, none, none, none, none, none, none, none, none, none, none, none, none, none, none, none, none, none, none, none, none, none, none, none, none, none, none, none, none, none, none, none, none, none, none, none, none, none, none, none, none, none, none, none, none, none, none, none, none, none, none, none, none, none, none, none, none, none, none, none, none, none, none, none, none, none, none, none, none, some 299, some 300, some 301, some 302, some 303, some 304, some 305, some 306, some 307, some 308, some 309, some 310, some 311, some 312, some 313, some 314, some 315, some 316, some 317, some 318, some 319, some 320, some 321, some 322, some 323, some 324, some 325, some 326, some 327, some 328, some 329, some 330, some 331, some 332, some 333, some 334, some 335, some 336, some 337, some 338, some 339, some 340, some 341, some 342, some 343, some 344, some 345, some 346, some 347, some 348, some 349, some 350, some 351, some 352, some 353, some 354, some 355, some 356, some 357, some 358, some 359, some 360, some 361, some 362, some 363, some 364, some 365, some 366, some 367, some 368, some 369, some 370, some 371, some 372, some 373, some 374, some 375, some 376, some 377, some 378, some 379, some 380, some 381, some 382, some 383, some 384, some 385, some 386, some 387, none, none, none, none, none, none, none, none, none, none, none, none, none, none, none, none, none, none, none, none, none, none, none, none, none, none, none, none, none, none, none, none, none, none, none, none, none, none, none, none, none, none, none, none, none, none, none, none, none, none, none, none, none, none, none, none, none, none, none, none, none, none, none, none, none, none, none, none, none, none, none, none, none, none, none, none, none, none, none, none, none, none, none, none, none, none, none, none, none, none, none, none, none, none, none, none, none, none, none, none, none, none, none, none, none, none, none, none, none, none, none, none, none, none, none, none, none, none, none, none, none, none, none, none, none, none, none, none, none, none, none, none, none, none] (fun f4 wr => ∃ j : Nat, j ≤ P.length ∧ f4 27 = .int .i64 (j : Int) ∧ Hid (FL W G cast A c L [lpR (.slice (some ⟨g18, 0, none⟩) P.length c18) P, lpR v16 P, wdR (.slice (some ⟨g6, 0, none⟩) (L.length + 1) c6) cast L] wr)) (fun a => P.length - (intOf (a.tmps.getD 27 undef)).toNat) (by kernel_rfl) ⟨0, Nat.zero_le _, rfl, HL⟩ ?_
                  clear HL
                  intro f4 wr m4 hrel hm4'
                  as_aux_lemma =>
                    obtain ⟨j, hj, h27, HL⟩ := hrel
                    have hmu4 : Hid (m4 = P.length - j) := by
                      rw [Hid, hm4']
                      show P.length - (intOf (f4 27)).toNat = P.length - j
                      rw [h27]
                      simp [intOf]
                    clear hm4'
                    dsimp only [maskL]
                    rw [h27]
                    clear h27
                    by_cases hjP : j < P.length
                    · as_aux_lemma =>
                      have e4 : decide (j < P.length) = true := by simpa using hjP
                      have e4' : decide ((j : Int) < (P.length : Int)) = true := by simp; omega
                      obtain ⟨yj0, yj1⟩ := HL.out.loop (g := g18) (cc := c18) (P := P) (by simp only [List.mem_cons, true_or, or_true]) hjP
                      obtain ⟨⟨rj, xj⟩, hpj⟩ : ∃ t, P.getD j (0, 0) = t := ⟨_, rfl⟩
                      have hbj := HLF.out.bd j hjP
                      have hkept := HLF.out.kept j hjP
                      rw [hpj] at yj0 yj1 hbj hkept
                      dsimp only at hkept
                      have HPJ := Lib.hid hpj
                      have hrj : rj ≤ L.length := hbj.1
                      have hxj : xj < widN cast L rj := hbj.2.1
                      have rj30 : (rj : Int) ≤ 30 := by have : rj ≤ 30 := hbj.2.2.1; omega
                      have xj60 : (xj : Int) < 60 := by have : xj < 60 := hbj.2.2.2; omega
                      have j0 : (0 : Int) ≤ (j : Int) := by omega
                      have j1 : (j : Int) < (P.length : Int) := by omega
                      have hFl := frm_len HV.out (r := rj) (x := xj) hrj
                      have HFY := Lib.hid (fun y hy => frm_lt HV.out (y := y) (x := xj) hrj hy)
                      obtain ⟨F, hF⟩ : ∃ F, frm L rj xj = F := ⟨_, rfl⟩
                      have HKept : Hid (∀ y ∈ F, ¬ (rj - 1, y) ∈ P → keptB L P rj y (widN cast L rj) = true) := fun y hy h => hkept y (hF.symm ▸ hy) h
                      clear hbj hpj hkept
                      go_upto_region 40 with fail
                      have HLd := Lib.hid HL.out.drew
                      have HSd : Hid (LS4 G cast A L.length c g18 j (.int .i16 (rj : Int)) (.int .i16 (xj : Int)) wr.drew) := ⟨⟨HL.out.f0, HL.out.f1⟩, yj0, yj1⟩
                      clear HL yj0 yj1
                      (first
                        | go_region_held3 (fun w' => (w'.cell? ⟨G, 0, none⟩ = some (.int .i16 cast) ∧ w'.cell? ⟨G, 1, none⟩ = some (.slice A L.length c)) ∧ w'.cell? ⟨g18, j * 2, none⟩ = some (.int .i16 (rj : Int)) ∧ w'.cell? ⟨g18, j * 2 + 1, none⟩ = some (.int .i16 (xj : Int)))
                            (with_reducible exact HSd.out)
                            (first
                              | (go_at_call 13; ((with_reducible refine (fl_fromOf HLd.out HOK.out hrj hxj).mono ?_); rintro e w16 ⟨v28, rfl, hL, hb⟩; replace HSd := Lib.hid (ls4_below hb HSd.out); replace HLd := Lib.hid hL; clear hb hL)))
                        | fail)
                      rw [hF] at HLd hFl HFY
                      clear hF HSd
                      obtain ⟨A28, c28, rfl, hA28⟩ := HLd.out.nform (v := v28) (F := F) (by simp only [List.mem_cons, true_or, or_true])
                      have HA28 := Lib.hid hA28
                      clear hA28
                      go_wp2
                      refine loop_mask [none, none, none, none, some 4, none, none, none, none, none, none, none, none, none, none, none, none, none, none, none, none, none, none, none, none, none, none, none, none, none, some 30, some 31, some 32, some 33, some 34, some 35, none, none, none, none, none, none, none, none, none, none, none, none, none, none, none, none, none, none, none, none, none, none, none, none, none, none, none, none, none, none, none, none, none, none, none, none, none, none, none, none, none, none, none, none, none, none, none, none, none, none, none, none, none, none, none, none, none, none, none, none, none, none, none, none, none, none, none, none, none, none, none, none, none, none, none, none, none, none, none, none, none, none, none, none, none, none, none, none, none, none, none, none, none, none, none, none, none, none, none, none, none, none, none, none, none, none, none, none, none, none, none, none, none, none, none, none, none, none, none, none, none, none, none, none, none, none, none, none, none, none, none, none, none, none, none, none, none, none, none, none, none, none, none, none, none, none, none, none, none, none, none, none, none, none, none, none, none, none, none, none, none, none, none, none, none, none, none, none, none, none, none, none, none, none, none, none, none, none, none, none, none, none, none, none, none, none, none, none, none, none, none, none, none, none, none, none, none, none, none, none, none, none, none, none, none, none, none, none, none, none, none, none, none, none, none, none, none, none, none, none, none, none, none, none, none, none, none, none, none, none, none, none, none, none, none, none, none, none, none, none, none, none, none, none, none, none, none, none, none, none, none, none, none, none, none, none, none, none, none, none, none, none, none, none, none, none, none, none, none, none, none, none, none, none, none, none, none, none, none, none, some 316, some 317, some 318, some 319, some 320, some 321, some 322, some 323, some 324, some 325, some 326, some 327, some 328, some 329, some 330, some 331, some 332, some 333, some 334, some 335, some 336, some 337, some 338, some 339, some 340, some 341, some 342, some 343, some 344, some 345, some 346, some 347, some 348, some 349, some 350, some 351, some 352, some 353, some 354, some 355, some 356, some 357, some 358, some 359, some 360, some 361, some 362, some 363, some 364, some 365, some 366, some 367, some 368, some 369, some 370, some 371, some 372, some 373, some 374, some 375, some 376, some 377, some 378, some 379, some 380, some 381, some 382, some 383, some 384, some 385, some 386, some 387, none, none, none, none, none, none, none, none, none, none, none, none, none, none, none, none, none, none, none, none, none, none, none, none, none, none, none, none, none, none, none, none, none, none, none, none, none, none, none, none, none, none, none, none, none, none, none, none, none, none, none, none, none, none, none, none, none, none, none, none, none, none, none, none, none, none, none, none, none, none, none, none, none, none, none, none, none, none, none, none, none, none, none, none, none, none, none, none, none, none, none, none, none, none, none, none, none, none, none, none, none, none, none, none, none, none, none, none, none, none, none, none, none, none, none, none, none, none, none, none, none, none, none, none, none, none, none, none, none, none, none, none, none, none] (fun f5 wr => ∃ i : Nat, i ≤ F.length ∧ f5 30 = .int .i64 (i : Int) ∧ Hid (FL W G cast A c L [nmR (.slice A28 F.length c28) F, lpR (.slice (some ⟨g18, 0, none⟩) P.length c18) P, lpR v16 P, wdR (.slice (some ⟨g6, 0, none⟩) (L.length + 1) c6) cast L] wr)) (fun a => F.length - (intOf (a.tmps.getD 30 undef)).toNat) (by kernel_rfl) ⟨0, Nat.zero_le _, rfl, HLd⟩ ?_
                      clear HLd
                      intro f5 wr m5 hrel hm5'
                      as_aux_lemma =>
                        obtain ⟨i, hi, h30, HL⟩ := hrel
                        have hmu5 : Hid (m5 = F.length - i) := by
                          rw [Hid, hm5']
                          show F.length - (intOf (f5 30)).toNat = F.length - i
                          rw [h30]
                          simp [intOf]
                        clear hm5'
                        dsimp only [maskL]
                        rw [h30]
                        clear h30
                        by_cases hiF : i < F.length
                        · as_aux_lemma =>
                          have e5 : decide (i < F.length) = true := by simpa using hiF
                          have e5' : decide ((i : Int) < (F.length : Int)) = true := by simp; omega
                          obtain ⟨g28, hg28⟩ := HA28.out (by omega)
                          subst hg28
                          have hyF := List.getElem_mem hiF
                          have y28 := HL.out.num (g := g28) (cc := c28) (F := F) (by simp only [List.mem_cons, true_or, or_true]) hiF
                          obtain ⟨y, hy⟩ : ∃ y, F[i] = y := ⟨_, rfl⟩
                          rw [hy] at hyF y28
                          have HY28 := Lib.hid hy
                          obtain ⟨hr1, hyw⟩ := HFY.out y hyF
                          obtain ⟨s, hs⟩ : ∃ s, rj = s + 1 := ⟨rj - 1, by omega⟩
                          have yw60 := HV.out.wid (rj - 1) (by omega)
                          have y60 : (y : Int) < 60 := by omega
                          have HKy : Hid (¬ (s, y) ∈ P → keptB L P rj y (widN cast L rj) = true) := fun h => HKept.out y hyF (by rw [hs]; simpa using h)
                          have wS : IntKind.i16.wrap ((rj : Int) - 1) = (s : Int) := by
                            rw [show (rj : Int) - 1 = (s : Int) by omega]
                            exact IntWalk.i16_in _ (by omega)
                          have wY : IntKind.i16.wrap (y : Int) = (y : Int) := IntWalk.i16_in _ (by omega)
                          have i0 : (0 : Int) ≤ (i : Int) := by omega
                          have i1 : (i : Int) < (F.length : Int) := by omega
                          have hyj := HL.out.loop (g := g18) (cc := c18) (P := P) (by simp only [List.mem_cons, true_or, or_true]) hjP
                          rw [HPJ.out] at hyj
                          clear hyF hr1 hyw hs yw60 hy
                          go_upto_region 46 with fail
                          go_cut [31] (fun p wx => ∃ g31, p = .pointer (some ⟨g31, 0, none⟩) ∧ Hid (wx.heap[g31]? = some (.cells #[.int .i16 (s : Int), .int .i16 (y : Int)] 39 (0, 0))) ∧ Hid (FL W G cast A c L [nmR (.slice (some ⟨g28, 0, none⟩) F.length c28) F, lpR (.slice (some ⟨g18, 0, none⟩) P.length c18) P, lpR v16 P, wdR (.slice (some ⟨g6, 0, none⟩) (L.length + 1) c6) cast L] wx))
                          case first => as_aux_lemma =>
                            have HSd : Hid (LS2 g18 (j * 2) (.int .i16 (rj : Int)) g28 i (.int .i64 (y : Int)) wr.drew) := ⟨hyj.1, y28⟩
                            (first
                              | go_region_held3 (fun w' => w'.cell? ⟨g18, j * 2, none⟩ = some (.int .i16 (rj : Int)) ∧ w'.cell? ⟨g28, i, none⟩ = some (.int .i64 (y : Int)))
                                  (first
                                    | with_reducible exact HSd.out
                                    | with_reducible exact ls2_alloc _ HSd.out
                                    | exact ls2_alloc _ HSd.out)
                                  (fail)
                              | fail)
                            go_wp2
                            go_meet
                            exact ⟨_, rfl, heap_alloc_new wr _, (HL.out.below (below_alloc (Below.refl _ _) _)).drew⟩
                          case rest => as_aux_lemma =>
                            obtain ⟨g31, rfl, hblk, HL⟩ := hcut
                            clear hyj y28 wS
                            have b0 : wc.cell? ⟨g31, 0, none⟩ = some (.int .i16 (s : Int)) := blk_cell hblk.out 0
                            have b1 : wc.cell? ⟨g31, 1, none⟩ = some (.int .i16 (y : Int)) := blk_cell hblk.out 1
                            by_cases hmem : (s, y) ∈ P
                            · as_aux_lemma =>
                              have CH := Lib.hid (fl_hasLoop (v := .slice (some ⟨g18, 0, none⟩) P.length c18) (P := P) HL.out (by simp only [List.mem_cons, true_or, or_true]) HLF.out.len s y)
                              rw [decide_eq_true hmem] at CH
                              go_wp2_with (go_at_call 15; ((with_reducible refine CH.out.mono ?_); rintro e w17 ⟨rfl, hL, hb⟩; replace HL := Lib.hid hL; clear hL hb))
                              refine mask_end (by kernel_rfl) ⟨i + 1, by omega, (by show Value.int .i64 ((i : Int) + 1) = _; go_num), HL⟩ ?_
                              rw [hmu5.out]
                              show F.length - (intOf (.int .i64 ((i : Int) + 1))).toNat < F.length - i
                              simp [intOf]; omega
                            · as_aux_lemma =>
                              have CH := Lib.hid (fl_hasLoop (v := .slice (some ⟨g18, 0, none⟩) P.length c18) (P := P) HL.out (by simp only [List.mem_cons, true_or, or_true]) HLF.out.len s y)
                              rw [decide_eq_false hmem] at CH
                              have HKz := Lib.hid (HKy.out hmem)
                              have hwd60 := HV.out.wid rj hrj
                              obtain ⟨wd, hwd⟩ : ∃ wd, widN cast L rj = wd := ⟨_, rfl⟩
                              have HWD := Lib.hid hwd
                              rw [hwd] at HKz hwd60
                              clear hwd hmem
                              go_wp2_with (go_at_call 15; ((with_reducible refine CH.out.mono ?_); rintro e w17 ⟨rfl, hL, hb⟩; replace HL := Lib.hid hL; clear hL hb))
                              clear CH b0 b1 hblk
                              go_loopw [32, 33] (fun kv ov wr => ∃ o : Nat, o ≤ wd ∧ ov = .int .i64 (o : Int) ∧ kv = .bool (keptB L P rj y o) ∧ Hid (FL W G cast A c L [nmR (.slice (some ⟨g28, 0, none⟩) F.length c28) F, lpR (.slice (some ⟨g18, 0, none⟩) P.length c18) P, lpR v16 P, wdR (.slice (some ⟨g6, 0, none⟩) (L.length + 1) c6) cast L] wr)) (fun _ ov _ => wd - (intOf ov).toNat)
                              case atStart => exact ⟨0, Nat.zero_le _, rfl, rfl, HL⟩
                              case round => as_aux_lemma =>
                                clear HL
                                obtain ⟨o, ho, rfl, rfl, HL⟩ := hrel
                                have hyj := HL.out.loop (g := g18) (cc := c18) (P := P) (by simp only [List.mem_cons, true_or, or_true]) hjP
                                rw [HPJ.out] at hyj
                                obtain ⟨yj0, -⟩ := hyj
                                have y6 := HL.out.wid (g := g6) (cc := c6) (by simp only [List.mem_cons, true_or, or_true]) (r := rj) hrj
                                rw [HWD.out] at y6
                                have rj0 : (0 : Int) ≤ (rj : Int) := by omega
                                have rj1 : (rj : Int) < (L.length : Int) + 1 := by omega
                                by_cases hod : o < wd
                                · as_aux_lemma =>
                                  have e8 : decide (o < wd) = true := by simpa using hod
                                  have e8' : decide ((o : Int) < (wd : Int)) = true := by simp; omega
                                  have o60 : (o : Int) < 60 := by omega
                                  have o0 : (0 : Int) ≤ (o : Int) := by omega
                                  have wO : IntKind.i16.wrap (o : Int) = (o : Int) := IntWalk.i16_in _ (by omega)
                                  have how : o < widN cast L rj := by rw [HWD.out]; exact hod
                                  have hsu := keptB_succ L P rj y o
                                  have HSU := Lib.hid hsu
                                  have hFl2 := frm_len HV.out (r := rj) (x := o) hrj
                                  clear hsu
                                  go_upto_region 52 with fail
                                  have HLd := Lib.hid HL.out.drew
                                  have HSd : Hid (LS3 G cast A L.length c g18 (j * 2) (.int .i16 (rj : Int)) wr.drew) := ⟨⟨HL.out.f0, HL.out.f1⟩, yj0⟩
                                  clear HL yj0 y6
                                  (first
                                    | go_region_held3 (fun w' => (w'.cell? ⟨G, 0, none⟩ = some (.int .i16 cast) ∧ w'.cell? ⟨G, 1, none⟩ = some (.slice A L.length c)) ∧ w'.cell? ⟨g18, j * 2, none⟩ = some (.int .i16 (rj : Int)))
                                        (with_reducible exact HSd.out)
                                        (first
                                          | (go_at_call 13; ((with_reducible refine (fl_fromOf HLd.out HOK.out hrj how).mono ?_); rintro e w18 ⟨v34, rfl, hL, hb⟩; replace HSd := Lib.hid (ls3_below hb HSd.out); replace HLd := Lib.hid hL; clear hb hL)))
                                    | fail)
                                  obtain ⟨F2, hF2⟩ : ∃ F2, frm L rj o = F2 := ⟨_, rfl⟩
                                  rw [hF2] at HLd hFl2 HSU
                                  have yj0 := HSd.out.2
                                  have y28 := HLd.out.num (g := g28) (cc := c28) (F := F) (by simp only [List.mem_cons, true_or, or_true]) hiF
                                  rw [HY28.out] at y28
                                  have CN := Lib.hid (fl_hasNumber (v := v34) (F := F2) HLd.out (by simp only [List.mem_cons, true_or, or_true]) hFl2 y)
                                  have CH := Lib.hid (fl_hasLoop (v := .slice (some ⟨g18, 0, none⟩) P.length c18) (P := P) HLd.out (by simp only [List.mem_cons, true_or, or_true]) HLF.out.len rj o)
                                  clear hF2 HSd
                                  cases hb : keptB L P rj y o
                                  · cases hc : F2.contains y
                                    · have HN : Hid (keptB L P rj y (o + 1) = false) := by rw [Hid, HSU.out, hb, hc]; rfl
                                      rw [hc] at CN
                                      clear hb hc
                                      go_wp2_with (go_at_call 14; ((with_reducible refine CN.out.mono ?_); rintro e w19 ⟨rfl, rfl⟩))
                                      go_roundw
                                      case rel => exact ⟨o + 1, by omega, by go_num, by rw [HN.out], HLd.out.tail⟩
                                      case measure => simp [intOf]; omega
                                    · rw [hc] at CN
                                      cases hd : decide ((rj, o) ∈ P)
                                      · have HN : Hid (keptB L P rj y (o + 1) = true) := by rw [Hid, HSU.out, hb, hc, hd]; rfl
                                        rw [hd] at CH
                                        clear hb hc hd
                                        go_wp2_with (first
                                          | (go_at_call 14; ((with_reducible refine CN.out.mono ?_); rintro e w19 ⟨rfl, rfl⟩))
                                          | (go_at_call 15; ((with_reducible refine CH.out.mono ?_); rintro e w20 ⟨rfl, hL, hb⟩; replace HLd := Lib.hid hL; clear hL hb)))
                                        go_roundw
                                        case rel => exact ⟨o + 1, by omega, by go_num, by rw [HN.out], HLd.out.tail⟩
                                        case measure => simp [intOf]; omega
                                      · have HN : Hid (keptB L P rj y (o + 1) = false) := by rw [Hid, HSU.out, hb, hc, hd]; rfl
                                        rw [hd] at CH
                                        clear hb hc hd
                                        go_wp2_with (first
                                          | (go_at_call 14; ((with_reducible refine CN.out.mono ?_); rintro e w19 ⟨rfl, rfl⟩))
                                          | (go_at_call 15; ((with_reducible refine CH.out.mono ?_); rintro e w20 ⟨rfl, hL, hb⟩; replace HLd := Lib.hid hL; clear hL hb)))
                                        go_roundw
                                        case rel => exact ⟨o + 1, by omega, by go_num, by rw [HN.out], HLd.out.tail⟩
                                        case measure => simp [intOf]; omega
                                  · have HN : Hid (keptB L P rj y (o + 1) = true) := by rw [Hid, HSU.out, hb]; rfl
                                    clear hb
                                    go_wp2
                                    go_roundw
                                    case rel => exact ⟨o + 1, by omega, by go_num, by rw [HN.out], HLd.out.tail⟩
                                    case measure => simp [intOf]; omega
                                · as_aux_lemma =>
                                  obtain rfl : o = wd := by omega
                                  have e8 : decide ((o : Int) < (o : Int)) = false := by simp
                                  have hh : keptB L P rj y o = true := HKz.out
                                  rw [hh]
                                  go_wp2
                                  refine mask_end (by kernel_rfl) ⟨i + 1, by omega, (by show Value.int .i64 ((i : Int) + 1) = _; go_num), HL⟩ ?_
                                  rw [hmu5.out]
                                  show F.length - (intOf (.int .i64 ((i : Int) + 1))).toNat < F.length - i
                                  simp [intOf]; omega
                        · as_aux_lemma =>
                          obtain rfl : i = F.length := by omega
                          have e5 : decide ((F.length : Int) < (F.length : Int)) = false := by simp
                          go_wp2
                          refine mask_end (by kernel_rfl) ⟨j + 1, by omega, (by show Value.int .i64 ((j : Int) + 1) = _; go_num), HL.out.tail⟩ ?_
                          rw [hmu4.out]
                          show P.length - (intOf (.int .i64 ((j : Int) + 1))).toNat < P.length - j
                          simp [intOf]; omega
                    · as_aux_lemma =>
                      obtain rfl : j = P.length := by omega
                      clear hmu4 hj hjP
                      have e4 : decide ((P.length : Int) < (P.length : Int)) = false := by simp
                      have hn200 : 1 ≤ (L.length : Int) + 1 ∧ (L.length : Int) + 1 ≤ 200 := by omega
                      go_upto_region 59 with (go_at_call 16; ((with_reducible refine (CK.out _ hn200 _ HL.out.b).mono ?_); rintro e w20 ⟨r, rfl, hr0, hr1, hb⟩; replace HL := Lib.hid (HL.out.below hb); clear hb))
                      obtain ⟨row, rfl⟩ := Int.eq_ofNat_of_zero_le hr0
                      obtain ⟨m, hm, hcat, hmi⟩ := catch_part HOK.out HKA.out (row := row) (by omega) HPP.out
                      have HCat := Lib.hid hcat
                      have HMi := Lib.hid hmi
                      obtain ⟨U, hU⟩ : ∃ U, P.take m = U := ⟨_, rfl⟩
                      have hUl : U.length = m := by rw [← hU, List.length_take]; omega
                      have HUg : Hid (∀ i, i < m → U.getD i (0, 0) = P.getD i (0, 0)) := fun i hi => by
                        rw [← hU]
                        simp [List.getD_eq_getElem?_getD, List.getElem?_take, hi]
                      rw [hU] at HCat
                      have row30 : (row : Int) ≤ 5 := by omega
                      clear hcat hmi hU e4 hr0 hr1
                      subst hUl
                      have f0 := HL.out.f0
                      have f1 := HL.out.f1
                      go_upto_region 61 with (first
                        | (go_at_call 17; ((with_reducible refine (fl_catchI HL.out HOK.out HCat.out).mono ?_); rintro e w21 ⟨v37, rfl, hL⟩; replace HL := Lib.hid hL; replace f0 := HL.out.f0; replace f1 := HL.out.f1; clear hL))
                        | (go_at_call 18; ((with_reducible refine (fl_catchS HL.out HOK.out HCat.out).mono ?_); rintro e w22 ⟨v39, rfl, hL⟩; replace HL := Lib.hid hL; clear hL)))
                      clear f0 f1
                      obtain ⟨A39, c39, rfl, hA39⟩ := HL.out.lform0 (v := v39) (P := U) (by simp only [List.mem_cons, true_or, or_true])
                      have HA39 := Lib.hid hA39
                      have hUP : U.length ≤ 1860 := by have := HLF.out.len; omega
                      have e9 : decide (P.length < U.length) = false := by simp; omega
                      have e9' : decide ((P.length : Int) < (U.length : Int)) = false := by simp; omega
                      clear hA39
                      go_wp2_with (go_at_call 11; ((with_reducible refine (fl_same (v := v37) (u := .slice A39 U.length c39) (P := U) HL.out (by simp only [List.mem_cons, true_or, or_true]) (by simp only [List.mem_cons, true_or, or_true]) hUP).mono ?_); rintro e w23 ⟨rfl, hL⟩; replace HL := Lib.hid hL; clear hL))
                      clear e9 e9'
                      go_loopw [41] (fun iv wr => ∃ i : Nat, i ≤ P.length ∧ iv = .int .i64 (i : Int) ∧ Hid (FL W G cast A c L [lpR (.slice A39 U.length c39) U, lpR v37 U, lpR (.slice (some ⟨g18, 0, none⟩) P.length c18) P, lpR v16 P, wdR (.slice (some ⟨g6, 0, none⟩) (L.length + 1) c6) cast L] wr)) (fun iv _ => P.length - (intOf iv).toNat)
                      case atStart => exact ⟨0, Nat.zero_le _, rfl, HL⟩
                      case round => as_aux_lemma =>
                        clear HL
                        obtain ⟨i, hi, rfl, HL⟩ := hrel
                        by_cases hiP : i < P.length
                        · as_aux_lemma =>
                          have e7 : decide (i < P.length) = true := by simpa using hiP
                          have e7' : decide ((i : Int) < (P.length : Int)) = true := by simp; omega
                          have hyi := HL.out.loop (g := g18) (cc := c18) (P := P) (by simp only [List.mem_cons, true_or, or_true]) hiP
                          have hmi := HMi.out i hiP
                          have hbi := HLF.out.bd i hiP
                          have hUi := HUg.out i
                          have hui := fun (g39 : Nat) (hg : A39 = some ⟨g39, 0, none⟩) (h : i < U.length) => HL.out.loop (g := g39) (cc := c39) (P := U) (by rw [← hg]; simp only [List.mem_cons, true_or, or_true]) h
                          obtain ⟨⟨ri, xi⟩, hpi⟩ : ∃ t, P.getD i (0, 0) = t := ⟨_, rfl⟩
                          rw [hpi] at hyi hmi hbi hUi
                          obtain ⟨y0, y1⟩ := hyi
                          dsimp only at y0 y1 hmi
                          have r30 : (ri : Int) ≤ 30 := by have : ri ≤ 30 := hbi.2.2.1; omega
                          have x60 : (xi : Int) < 60 := by have : xi < 60 := hbi.2.2.2; omega
                          have i0 : (0 : Int) ≤ (i : Int) := by omega
                          have i1 : (i : Int) < (P.length : Int) := by omega
                          have wR : IntKind.i64.wrap (ri : Int) = (ri : Int) := IntWalk.i64_in _ (by omega)
                          clear hbi hpi
                          by_cases him : i < U.length
                          · have hrr : row < ri := hmi.1 him
                            have hil : i < U.length := by omega
                            obtain ⟨g39, hg⟩ := HA39.out (by omega)
                            have hz := hui g39 hg hil
                            rw [hUi him] at hz
                            obtain ⟨z0, z1⟩ := hz
                            dsimp only at z0 z1
                            subst hg
                            have e8 : decide (i < U.length) = true := by simpa using hil
                            have e8' : decide ((i : Int) < (U.length : Int)) = true := by simp; omega
                            have e9 : decide (row < ri) = true := by simpa using hrr
                            have e9' : decide ((row : Int) < (ri : Int)) = true := by simp; omega
                            have u1 : (i : Int) < (U.length : Int) := by omega
                            clear hui hmi hUi him hrr
                            go_upto_region 66 with fail
                            go_quiet (fail)
                            go_wp2
                            go_roundw
                            case rel => exact ⟨i + 1, by omega, by go_num, HL.out.drewN _⟩
                            case measure => simp [intOf]; omega
                          · have hrr : ¬ row < ri := fun h => him (hmi.2 h)
                            have hil : ¬ i < U.length := by omega
                            have e8 : decide (i < U.length) = false := by simpa using hil
                            have e8' : decide ((i : Int) < (U.length : Int)) = false := by simp; omega
                            have e9 : decide (row < ri) = false := by simpa using hrr
                            have e9' : decide ((row : Int) < (ri : Int)) = false := by simp; omega
                            clear hui hmi hUi him hrr
                            go_upto_region 66 with fail
                            go_quiet (fail)
                            go_wp2
                            go_roundw
                            case rel => exact ⟨i + 1, by omega, by go_num, HL.out.drewN _⟩
                            case measure => simp [intOf]; omega
                        · as_aux_lemma =>
                          obtain rfl : i = P.length := by omega
                          have e7 : decide ((P.length : Int) < (P.length : Int)) = false := by simp
                          go_wp2
                          refine mask_end (by kernel_rfl) ⟨k + 1, by omega, (by show Value.int .i64 ((k : Int) + 1) = _; go_num), HL.out.sub (fun p hp => by simp only [List.mem_singleton] at hp; subst hp; simp only [List.mem_cons, true_or, or_true])⟩ ?_
                          rw [hmu.out]
                          show M - (intOf (.int .i64 ((k : Int) + 1))).toNat < M - k
                          simp [intOf]; omega
          · as_aux_lemma =>
            obtain rfl : k = M := by omega
            clear hmu hk hkM
            have e1 : decide ((k : Int) < (k : Int)) = false := by simp
            have wM : IntKind.i16.wrap (k : Int) = (k : Int) := IntWalk.i16_in _ (by omega)
            have w6 : IntKind.i64.wrap (6 * (k : Int)) = 6 * (k : Int) := IntWalk.i64_in _ (by omega)
            have hL5 : L.length ≤ 5 := by omega
            go_upto_region 68 with fail
            have HLd := Lib.hid HL.out.drew
            have HSd : Hid (LS3 G cast A L.length c g6 L.length (.int .i64 (k : Int)) wr.drew) := ⟨⟨HL.out.f0, HL.out.f1⟩, x6⟩
            clear HL x6 f0 f1
            (first
              | go_region_held3 (fun w' => (w'.cell? ⟨G, 0, none⟩ = some (.int .i16 cast) ∧ w'.cell? ⟨G, 1, none⟩ = some (.slice A L.length c)) ∧ w'.cell? ⟨g6, L.length, none⟩ = some (.int .i64 (k : Int)))
                  (with_reducible exact HSd.out)
                  (first
                    | (go_at_call 19; ((with_reducible refine (fl_graft HLd.out HOK.out HM.out hm0).mono ?_); rintro e w30 ⟨rfl, hL, hb⟩; replace HSd := Lib.hid (ls3_below hb HSd.out); replace HLd := Lib.hid hL; clear hb hL)))
              | fail)
            clear HSd
            have f0 := HLd.out.f0
            have f1 := HLd.out.f1
            have hsz : (str (List.replicate k 107)).size = k := by rw [str_size, List.length_replicate]
            go_upto_region 71 with (first
              | (go_at_call 20; ((with_reducible refine (fl_repeat HLd.out HOK.out HM.out).mono ?_); rintro e w31 ⟨rfl, hL⟩; replace HLd := Lib.hid hL; replace f0 := HLd.out.f0; replace f1 := HLd.out.f1; clear hL))
              | (go_at_call 21; ((with_reducible refine (fl_addRow HLd.out HOK.out HM.out hm0 hL5).mono ?_); rintro e w32 ⟨A2, c2, rfl, hL⟩; replace HLd := Lib.hid hL; replace f0 := HLd.out.f0; replace f1 := HLd.out.f1; clear hL)))
            have x6 := HLd.out.wid (g := g6) (cc := c6) (by simp only [List.mem_cons, true_or, or_true]) (r := L.length) (Nat.le_refl _)
            rw [HM.out] at x6
            have HB9 := Lib.hid HLd.out.b
            have hG := blk_lt HLd.out.f
            have hg6 := World.block_lt_of_cell? _ _ x6
            go_wp2
            go_ret
            exact ⟨rfl, below_alloc HB9.out _⟩
    · have d1 : decide ((4096 : Int) < (a1.length : Int)) = true := by simp; omega
      have CB1 := Lib.hid (fun w => d1 ▸ c_f6big A1 a1.length cap1 w)
      clear w0 r0 s0 m0 w1 r1 s1 m1 d0 d1
      go_enter Try.func3, Try.ntmps3
      go_wp2_with (first
        | (go_at_call 4; ((with_reducible refine (CB0.out _).mono ?_); rintro e w1 ⟨rfl, rfl⟩))
        | (go_at_call 4; ((with_reducible refine (CB1.out _).mono ?_); rintro e w1 ⟨rfl, rfl⟩)))
      go_ret
      exact ⟨rfl, by (repeat (first | with_reducible exact Below.refl _ _ | with_reducible refine below_alloc ?_ _ | with_reducible refine below_drew ?_ | with_reducible refine below_drewN ?_ _ | with_reducible refine below_then ?_ (by assumption)))⟩
  · have d0 : decide ((4096 : Int) < (a0.length : Int)) = true := by simp; omega
    have CB0 := Lib.hid (fun w => d0 ▸ c_f6big A0 a0.length cap0 w)
    clear w0 r0 s0 m0 w1 r1 s1 m1 d0
    go_enter Try.func3, Try.ntmps3
    go_wp2_with (go_at_call 4; ((with_reducible refine (CB0.out _).mono ?_); rintro e w1 ⟨rfl, rfl⟩))
    go_ret
    exact ⟨rfl, by (repeat (first | with_reducible exact Below.refl _ _ | with_reducible refine below_alloc ?_ _ | with_reducible refine below_drew ?_ | with_reducible refine below_drewN ?_ _ | with_reducible refine below_then ?_ (by assumption)))⟩
end Go.Proofs.Ytepdgbgolopejaa
