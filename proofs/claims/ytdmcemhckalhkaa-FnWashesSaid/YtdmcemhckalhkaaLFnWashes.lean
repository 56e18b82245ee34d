/- The law on washes (printed by mkwash.py). -/
import Derived.Test.YtdmcemhckalhkaaWashLay
import Derived.Test.YtdmcemhckalhkaaWashEnd
import Derived.Test.YtdmcemhckalhkaaEvOps
import Derived.Test.YtdmcemhckalhkaaTreeThree
import Derived.Test.YtdmcemhckalhkaaTreeIFelt
import Derived.Test.YtdmcemhckalhkaaTreeFelt
import Derived.Test.YtdmcemhckalhkaaTreeLarge
import Derived.Test.YtdmcemhckalhkaaGentle
import Derived.Test.YtdmcemhckalhkaaWashOnce
import Derived.BigRegion
import Derived.StillTailTactics
import Derived.Deep.DeepCutAuto
import Derived.Deep.RegionHeld3
namespace Go.Proofs.Ytdmcemhckalhkaa
open Go.RowKit
set_option linter.unusedVariables false
set_option linter.unusedSimpArgs false
set_option maxRecDepth 100000

set_option maxHeartbeats 20000000 in
theorem walk_FnWashes (W : World) (A0 : Option Addr) (cap0 : Nat) (a0 : List Int) (w0 : ∀ z ∈ a0, (Lit.int .u8 z).wf = true) (r0 : RdRow W A0 (nums .u8 a0)) (s0 : a0.length * 1 ≤ 140737488351232) (m0 : a0.length ≤ maxLen) (A1 : Option Addr) (cap1 : Nat) (a1 : List Int) (w1 : ∀ z ∈ a1, (Lit.int .u8 z).wf = true) (r1 : RdRow W A1 (nums .u8 a1)) (s1 : a1.length * 1 ≤ 140737488351232) (m1 : a1.length ≤ maxLen) :
    Calls Try.prog 3 #[.slice A0 a0.length cap0, .slice A1 a1.length cap1] W fun e w' => e = .returned (.bool true) ∧ Below W.heap.size W w' := by
  have CLong := Lib.hid (fun w => c_a2Long A0 A1 a0.length cap0 a1.length cap1 w)
  cases hL : (decide ((3000 : Int) < (a0.length : Int)) || decide ((3000 : Int) < (a1.length : Int)))
  · have hl : a0.length ≤ 3000 ∧ a1.length ≤ 3000 := by simp at hL; omega
    rw [hL] at CLong
    have hB0 : BytesAt W A0 a0 := ⟨r0, bytes_bd w0, by omega⟩
    have hB1 : BytesAt W A1 a1 := ⟨r1, bytes_bd w1, by omega⟩
    have CCl := Lib.hid (c_A2Cloth A0 cap0 a0 W hB0 hB0.lt)
    have CPr := Lib.hid (fun w (hb : Below W.heap.size W w) => c_A2Programs A1 cap1 a1 w (hB1.below hb) (hB1.below hb).lt)
    have CAt := Lib.hid (fun (k : Nat) (n : Int) (hk : (k : Int) ≤ 1000) (hn : 1 ≤ n) w (hb : Below W.heap.size W w) => c_a2At A1 cap1 a1 k n w (hB1.below hb) hn hk)
    have HI5 : Hid ((Try.prog.info? 27).map (·.size) = some 5) := by show (Try.prog.info? 27).map (·.size) = some 5; kernel_rfl
    clear hB0 hB1 w0 r0 s0 m0 w1 r1 s1 m1 hL
    go_enter Try.func3, Try.ntmps3
    go_upto_region 4 with (first
      | (go_at_call 4; ((refine (CLong.out _).mono ?_); rintro e w1 ⟨rfl, rfl⟩))
      | (go_at_call 5; ((refine CCl.out.mono ?_); rintro e w1 ⟨x, ok, rfl, hb⟩; have OK := Lib.hid ok; have HB := Lib.hid hb; clear ok hb))
      | ((with_reducible refine ev_st 27 5 58 (w1.heap.size) #[.int .i16 x.a, .int .i16 x.b, .int .i8 x.c, .int .i8 x.d, .int .i8 x.e] 27 _ ?_ ?_ (heap_alloc_new w1 _) ?_ ?_ ?_ ?_); exact rfl; exact rfl; exact HI5.out; exact Eq.refl (5 : Nat); exact oneCl _; intro w2 hblk ht; have hb := tou_newM ht; replace HB := Lib.hid (below_then HB.out hb); have HX := Lib.hid hblk; clear ht hblk hb))
    generalize w1.heap.size = gc at *
    go_upto_region 5 with (go_at_call 6; ((refine (CPr.out _ HB.out).mono ?_); rintro e w3 ⟨L, v, rfl, hL1, hL3, hL, hO, hb⟩; have HPR := Lib.hid (progs_bdL hL); have HO := Lib.hid (own_mono hO HB.out.size); replace HX := Lib.hid (blk_below HX.out hb); replace HB := Lib.hid (below_then HB.out hb); clear hO hb hL))
    obtain ⟨A6, cp, rfl, hA6⟩ := own_form HO.out
    obtain ⟨gp, rfl, hgp⟩ := hA6 (by omega)
    have HL : Hid (Lay W [(gc, x)] [] gp cp L w3) := ⟨HB.out, fun p hp => by simp at hp; subst hp; exact HX.out, fun x hx => by simp at hx, HO.out⟩
    have CA20 : Hid (∀ w, Below W.heap.size W w → Calls Try.prog 7 #[.slice A1 a1.length cap1, .int .i64 20, .int .i64 3] w fun e w' => ∃ r : Int, e = .returned (.int .i64 r) ∧ 0 ≤ r ∧ r < 3 ∧ w = w') := Lib.hid (fun w hb => CAt.out 20 3 (by decide) (by decide) w hb)
    clear HO HX HB hA6 CCl CPr CLong
    go_upto_region 7 with (go_at_call 7; ((with_reducible refine (CA20.out _ HL.out.b).mono ?_); rintro e w4 ⟨m, rfl, m0, m1, rfl⟩; obtain ⟨mN, rfl⟩ := Int.eq_ofNat_of_zero_le m0))
    obtain ⟨M, hM⟩ : ∃ M : Nat, M = 1 + mN := ⟨_, rfl⟩
    have hMi : 1 + (mN : Int) = (M : Int) := by omega
    have hM3 : M ≤ 3 := by omega
    have hM1 : 1 ≤ M := by omega
    rw [hMi]
    clear hM CA20
    have HOE := Lib.hid (World.ownsRow_made (base := W.heap.size) (e := 2) (size := 1) w3 #[] 0 HL.out.b.size (by decide) rfl)
    have HLE := Lib.hid (HL.out.below (below_alloc (Below.refl _ _) (.cells #[] 2 (0, 0))))
    clear HL
    go_wp2
    clear hMi m0 m1
    go_loopw [9, 8] (fun kv v wr => ∃ (k : Nat) (zs : List Int), k ≤ M ∧ zs.length = k ∧ kv = .int .i64 (k : Int) ∧ Hid (∀ j, j < k → inB (gi zs j) 0 ((L.length : Int) - 1) = true) ∧ Hid (wr.ownsRow W.heap.size 2 1 v k (nums .i64 zs)) ∧ Hid (Lay W [(gc, x)] [] gp cp L wr)) (fun k _ _ => M - (intOf k).toNat)
    case atStart => exact ⟨0, [], by omega, rfl, rfl, fun j hj => by omega, HOE, HLE⟩
    case round => as_aux_lemma =>
      clear HOE HLE
      obtain ⟨k, zs, hk, hzs, rfl, HZ, HO, HL⟩ := hrel
      by_cases hkM : k < M
      · as_aux_lemma =>
        have d1 : decide ((k : Int) < (M : Int)) = true := by simp; omega
        have ea : ((21 + k : Nat) : Int) = 21 + (k : Int) := by omega
        have CA := Lib.hid (fun w hb => ea ▸ CAt.out (21 + k) (L.length : Int) (by omega) (by omega) w hb)
        have hzb := HL.out.b.size
        clear ea
        go_wp2_with (first
          | (go_at_call 7; ((with_reducible refine (CA.out _ HL.out.b).mono ?_); rintro e w5 ⟨z, rfl, z0, z1, rfl⟩))
          | (at_builtin; refine ap1 rfl (.tmp 70) (.tmp 77) 32 2 rfl (.int .i64 0) 1 8 W.heap.size Try.underlying32 (by kernel_rfl) rfl (by decide) u8 k (nums .i64 zs) [.int .i64 z] rfl rfl (by simp) rfl rfl HO.out hzb (by omega) (by omega) ?_; intro g3 d3 w6 hown hg3 hat; have HO6 := Lib.hid hown; have HL6 := Lib.hid (HL.out.grown hg3 HO.out); clear hown hg3 hat))
        go_roundw
        case rel => exact ⟨k + 1, zs ++ [z], by omega, by simp [hzs], by go_num, zs_snoc hzs HZ.out ⟨z0, z1⟩, by rw [Hid, ← nums_snocZ]; exact HO6.out, HL6⟩
        case measure => simp [intOf]; omega
      · as_aux_lemma =>
        obtain rfl : k = M := by omega
        have d1 : decide ((k : Int) < (k : Int)) = false := by simp
        subst hzs
        obtain ⟨A8, c8, rfl, hA8⟩ := own_form HO.out
        obtain ⟨g8, rfl, -⟩ := hA8 (by omega)
        clear hA8
        replace HL := Lib.hid (HL.out.addR zs HO.out)
        have hG := HPR.out
        have hmost := most_ok (p := pF L) (q := qF L) (r := rF L) (n := L.length) (M := (zs.length : Int)) OK.out hG (by omega) (by omega)
        have hask := (mostF_ok hmost).a
        have E1 := washAll_of (p := pF L) (q := qF L) (r := rF L) (n := L.length) (zs := zs) hask (by omega) HZ.out
        obtain ⟨Y, hY⟩ : ∃ Y, washN (pF L) (qF L) (rF L) zs x zs.length = Y := ⟨_, rfl⟩
        rw [hY] at E1
        have HYO : Hid Y.Ok := by rw [← hY]; exact washN_ok (n := L.length) OK.out hG HZ.out zs.length (Nat.le_refl _)
        have HYE := Lib.hid hY
        clear hY
        obtain ⟨cd, ns, nb, nl, e1, e2, e3, hcase⟩ := bests_all (bests_of hmost)
        have e4 := gentle_of (p := pF L) (q := qF L) (r := rF L) hask
        obtain ⟨ol, hol⟩ : ∃ ol, ol = gentL x.d x.e (pF L) (qF L) L.length := ⟨_, rfl⟩
        rw [← hol] at e4
        have HOL := Lib.hid hol
        have HCASE := Lib.hid hcase
        have xa : -32768 ≤ x.a ∧ x.a ≤ 32767 := by have := OK.out.a; omega
        have xb : -32768 ≤ x.b ∧ x.b ≤ 32767 := by have := OK.out.b; omega
        have hn : L.length ≤ 1048576 := by omega
        have hm : zs.length ≤ 1048576 := by omega
        have hg : ∀ j, j < L.length → (-128 ≤ rF L j ∧ rF L j ≤ 127) ∧ (-128 ≤ pF L j ∧ pF L j ≤ 127) ∧ (-128 ≤ qF L j ∧ qF L j ≤ 127) := fun j hj => by have := hG j hj; omega
        have CWi := Lib.hid (fun w hP hr => E1 ▸ c_iWashAll x.a x.b x.c x.d x.e L.length cp (pF L) (qF L) (rF L) (some ⟨g8, 0, none⟩) zs.length c8 zs w (some ⟨gp, 0, none⟩) xa xb hP hn hg hr rfl hm)
        have CWs := Lib.hid (fun w hP hr => E1 ▸ c_sWashAll x.a x.b x.c x.d x.e L.length cp (pF L) (qF L) (rF L) (some ⟨g8, 0, none⟩) zs.length c8 zs w gp xa xb hP hn hr rfl hm)
        have CFi := Lib.hid (fun w hP => e1 ▸ c_iFewestWashes (some ⟨gp, 0, none⟩) x.a x.b x.c x.d x.e L.length cp (pF L) (qF L) (rF L) (zs.length : Int) w xa xb hP hn hg)
        have CFs := Lib.hid (fun w hP => e1 ▸ c_sFewestWashes gp x.a x.b x.c x.d x.e L.length cp (pF L) (qF L) (rF L) (zs.length : Int) w xa xb hP hn)
        have CLi := Lib.hid (fun w hP => e2 ▸ c_iLeastFelt (some ⟨gp, 0, none⟩) x.a x.b x.c x.d x.e L.length cp (pF L) (qF L) (rF L) (zs.length : Int) w xa xb hP hn hg)
        have CLs := Lib.hid (fun w hP => e2 ▸ c_sLeastFelt gp x.a x.b x.c x.d x.e L.length cp (pF L) (qF L) (rF L) (zs.length : Int) w xa xb hP hn)
        have CGi := Lib.hid (fun w hP => e3 ▸ c_iLargestClean (some ⟨gp, 0, none⟩) x.a x.b x.c x.d x.e L.length cp (pF L) (qF L) (rF L) (zs.length : Int) w xa xb hP hn hg)
        have CGs := Lib.hid (fun w hP => e3 ▸ c_sLargestClean gp x.a x.b x.c x.d x.e L.length cp (pF L) (qF L) (rF L) (zs.length : Int) w xa xb hP hn)
        have COi := Lib.hid (fun w hP => e4 ▸ c_iGentleOnes x.a x.b x.c x.d x.e L.length cp (pF L) (qF L) (rF L) w (some ⟨gp, 0, none⟩) xa xb hP hn hg)
        have COs := Lib.hid (fun w hP => e4 ▸ c_sGentleOnes x.a x.b x.c x.d x.e L.length cp (pF L) (qF L) (rF L) w gp xa xb hP hn)
        have HASK := Lib.hid hask
        have HMO := Lib.hid (mostF_ok hmost)
        have HG := Lib.hid hG
        have HGI := Lib.hid hg
        clear hG hask hol hcase hg HO CAt hM1
        go_upto_region 21 with (first
          | ((with_reducible refine ev_ld 27 5 gc 27 #[.int .i16 x.a, .int .i16 x.b, .int .i8 x.c, .int .i8 x.d, .int .i8 x.e] (0, 0) _ ?_ ?_ Try.underlying27 ?_ ?_ ?_); exact rfl; exact HL.out.blk (X := x) (by simp); exact rfl; exact HI5.out)
          | (go_at_call 8; ((with_reducible refine (CWi.out _ HL.out.progs (own_rd (HL.out.row (v := .slice (some ⟨g8, 0, none⟩) zs.length c8) (zs := zs) (by simp)))).mono ?_); rintro e w10 ⟨rfl, hb⟩; replace HL := Lib.hid (HL.out.below hb); clear hb))
          | (go_at_call 9; ((with_reducible refine (CWs.out _ HL.out.progs (own_rd (HL.out.row (v := .slice (some ⟨g8, 0, none⟩) zs.length c8) (zs := zs) (by simp)))).mono ?_); rintro e w12 ⟨rfl, hb⟩; replace HL := Lib.hid (HL.out.below hb); clear hb))
          | ((with_reducible refine ev_st 27 10 84 (w10.heap.size) #[.int .i16 Y.a, .int .i16 Y.b, .int .i8 Y.c, .int .i8 Y.d, .int .i8 Y.e] 27 _ ?_ ?_ (heap_alloc_new w10 _) ?_ ?_ ?_ ?_); exact rfl; exact rfl; exact HI5.out; exact Eq.refl (5 : Nat); exact oneCl _; intro wS hblk ht; have hb := tou_newM ht; clear ht; replace HL := Lib.hid (HL.out.below hb); replace HL := Lib.hid (HL.out.addK Y hblk); clear hblk hb)
          | ((with_reducible refine ev_st 27 12 91 (w12.heap.size) #[.int .i16 Y.a, .int .i16 Y.b, .int .i8 Y.c, .int .i8 Y.d, .int .i8 Y.e] 27 _ ?_ ?_ (heap_alloc_new w12 _) ?_ ?_ ?_ ?_); exact rfl; exact rfl; exact HI5.out; exact Eq.refl (5 : Nat); exact oneCl _; intro wS hblk ht; have hb := tou_newM ht; clear ht; replace HL := Lib.hid (HL.out.below hb); replace HL := Lib.hid (HL.out.addK Y hblk); clear hblk hb)
          | (go_at_call 10; ((with_reducible refine (CFi.out _ HL.out.progs).mono ?_); rintro e w14 ⟨v14, rfl, hO, hb⟩; replace hO := own_mono hO HL.out.b.size; replace HL := Lib.hid ((HL.out.below hb).addR ns.o hO); clear hO hb))
          | (go_at_call 11; ((with_reducible refine (CFs.out _ HL.out.progs).mono ?_); rintro e w16 ⟨v16, rfl, hO, hb⟩; replace hO := own_mono hO HL.out.b.size; replace HL := Lib.hid ((HL.out.below hb).addR ns.o hO); clear hO hb))
          | (go_at_call 12; ((with_reducible refine (CLi.out _ HL.out.progs).mono ?_); rintro e w18 ⟨v18, rfl, hO, hb⟩; replace hO := own_mono hO HL.out.b.size; replace HL := Lib.hid ((HL.out.below hb).addR nb.o hO); clear hO hb))
          | ((with_reducible refine ev_st 27 19 113 (w18.heap.size) #[.int .i16 nb.c.a, .int .i16 nb.c.b, .int .i8 nb.c.c, .int .i8 nb.c.d, .int .i8 nb.c.e] 27 _ ?_ ?_ (heap_alloc_new w18 _) ?_ ?_ ?_ ?_); exact rfl; exact rfl; exact HI5.out; exact Eq.refl (5 : Nat); exact oneCl _; intro wS hblk ht; have hb := tou_newM ht; clear ht; replace HL := Lib.hid (HL.out.below hb); replace HL := Lib.hid (HL.out.addK nb.c hblk); clear hblk hb)
          | (go_at_call 13; ((with_reducible refine (CLs.out _ HL.out.progs).mono ?_); rintro e w21 ⟨v21, rfl, hO, hb⟩; replace hO := own_mono hO HL.out.b.size; replace HL := Lib.hid ((HL.out.below hb).addR nb.o hO); clear hO hb))
          | ((with_reducible refine ev_st 27 22 121 (w21.heap.size) #[.int .i16 nb.c.a, .int .i16 nb.c.b, .int .i8 nb.c.c, .int .i8 nb.c.d, .int .i8 nb.c.e] 27 _ ?_ ?_ (heap_alloc_new w21 _) ?_ ?_ ?_ ?_); exact rfl; exact rfl; exact HI5.out; exact Eq.refl (5 : Nat); exact oneCl _; intro wS hblk ht; have hb := tou_newM ht; clear ht; replace HL := Lib.hid (HL.out.below hb); replace HL := Lib.hid (HL.out.addK nb.c hblk); clear hblk hb)
          | (go_at_call 14; ((with_reducible refine (CGi.out _ HL.out.progs).mono ?_); rintro e w24 ⟨v24, rfl, hO, hb⟩; replace hO := own_mono hO HL.out.b.size; replace HL := Lib.hid ((HL.out.below hb).addR nl.o hO); clear hO hb))
          | (go_at_call 15; ((with_reducible refine (CGs.out _ HL.out.progs).mono ?_); rintro e w27 ⟨v27, rfl, hO, hb⟩; replace hO := own_mono hO HL.out.b.size; replace HL := Lib.hid ((HL.out.below hb).addR nl.o hO); clear hO hb))
          | (go_at_call 16; ((with_reducible refine (COi.out _ HL.out.progs).mono ?_); rintro e w30 ⟨v30, rfl, hO, hb⟩; replace hO := own_mono hO HL.out.b.size; replace HL := Lib.hid ((HL.out.below hb).addR ol hO); clear hO hb))
          | (go_at_call 17; ((with_reducible refine (COs.out _ HL.out.progs).mono ?_); rintro e w32 ⟨v32, rfl, hO, hb⟩; replace hO := own_mono hO HL.out.b.size; replace HL := Lib.hid ((HL.out.below hb).addR ol hO); clear hO hb)))
        have ln1 : ns.o.length ≤ 1048576 := by have := congrArg (fun z => z.1.o.length) e1; have h2 := bestR_le (f := lenF) (a := x.a) (b := x.b) (c := x.c) (d := x.d) (e := x.e) (n := L.length) (p := pF L) (q := qF L) (r := rF L) (M := (zs.length : Int)); simp only at this; omega
        have ln2 : nb.o.length ≤ 1048576 := by have := congrArg (fun z => z.1.o.length) e2; have h2 := bestR_le (f := feltF) (a := x.a) (b := x.b) (c := x.c) (d := x.d) (e := x.e) (n := L.length) (p := pF L) (q := qF L) (r := rF L) (M := (zs.length : Int)); simp only at this; omega
        have ln3 : nl.o.length ≤ 1048576 := by have := congrArg (fun z => z.1.o.length) e3; have h2 := bestR_le (f := areaF) (a := x.a) (b := x.b) (c := x.c) (d := x.d) (e := x.e) (n := L.length) (p := pF L) (q := qF L) (r := rF L) (M := (zs.length : Int)); simp only at this; omega
        have ln4 : ol.length ≤ 1048576 := by rw [HOL.out]; have := gentL_len x.d x.e (pF L) (qF L) L.length; omega
        have qY := fun w => eqX Y w
        have qB := fun w => eqX nb.c w
        have CV1 := Lib.hid (fun w => okCloth_of OK.out ▸ c_iValidCloth x.a x.b x.c x.d x.e w xa xb)
        have CV2 := Lib.hid (fun w => okCloth_of HYO.out ▸ c_iValidCloth Y.a Y.b Y.c Y.d Y.e w (by have := HYO.out.a; omega) (by have := HYO.out.b; omega))
        have s0 := HL.out.c0 (g := w10.heap.size) (X := Y) (by simp)
        have s1 := HL.out.c1 (g := w10.heap.size) (X := Y) (by simp)
        have s2 := HL.out.c2 (g := w10.heap.size) (X := Y) (by simp)
        have s3 := HL.out.c3 (g := w10.heap.size) (X := Y) (by simp)
        have s4 := HL.out.c4 (g := w10.heap.size) (X := Y) (by simp)
        have t0 := HL.out.c0 (g := w12.heap.size) (X := Y) (by simp)
        have t1 := HL.out.c1 (g := w12.heap.size) (X := Y) (by simp)
        have t2 := HL.out.c2 (g := w12.heap.size) (X := Y) (by simp)
        have t3 := HL.out.c3 (g := w12.heap.size) (X := Y) (by simp)
        have t4 := HL.out.c4 (g := w12.heap.size) (X := Y) (by simp)
        have n1 : (cd != cd) = false := by simp
        have n2 : (nl.c.a * nl.c.b != nl.c.a * nl.c.b) = false := by simp
        clear e1 e2 e3 e4 E1 CWs CFi CFs CLi CLs CGi CGs COi COs
        have hcd : cd = 6 ∨ cd = 0 := HCASE.out.imp (fun h => h.1) (fun h => h.1)
        have HXA := Lib.hid xa
        have HXB := Lib.hid xb
        have HN := Lib.hid hn
        clear hmost xa xb hn hm
        rcases hcd with rfl | rfl
        · as_aux_lemma =>
          have HNO := Lib.hid (none_of HCASE.out)
          clear HMO HCASE
          simp only [List.append_eq, List.cons_append, List.nil_append]
          go_upto_region 23 with (first
            | (go_at_call 18; (try clear s0 s1 s2 s3 s4); (try clear t0 t1 t2 t3 t4); ((with_reducible refine (c_A2Same v14 v16 W.heap.size W.heap.size ns.o.length ns.o _ (HL.out.row (by simp)) (HL.out.row (by simp)) ln1).mono ?_); rintro e w41 ⟨rfl, hb⟩; replace HL := Lib.hid (HL.out.below hb); clear hb; have s0 := HL.out.c0 (g := w18.heap.size) (X := nb.c) (by simp); have s1 := HL.out.c1 (g := w18.heap.size) (X := nb.c) (by simp); have s2 := HL.out.c2 (g := w18.heap.size) (X := nb.c) (by simp); have s3 := HL.out.c3 (g := w18.heap.size) (X := nb.c) (by simp); have s4 := HL.out.c4 (g := w18.heap.size) (X := nb.c) (by simp); have t0 := HL.out.c0 (g := w21.heap.size) (X := nb.c) (by simp); have t1 := HL.out.c1 (g := w21.heap.size) (X := nb.c) (by simp); have t2 := HL.out.c2 (g := w21.heap.size) (X := nb.c) (by simp); have t3 := HL.out.c3 (g := w21.heap.size) (X := nb.c) (by simp); have t4 := HL.out.c4 (g := w21.heap.size) (X := nb.c) (by simp)))
            | (go_at_call 18; (try clear s0 s1 s2 s3 s4); (try clear t0 t1 t2 t3 t4); ((with_reducible refine (c_A2Same v18 v21 W.heap.size W.heap.size nb.o.length nb.o _ (HL.out.row (by simp)) (HL.out.row (by simp)) ln2).mono ?_); rintro e w42 ⟨rfl, hb⟩; replace HL := Lib.hid (HL.out.below hb); clear hb; have s0 := HL.out.c0 (g := w18.heap.size) (X := nb.c) (by simp); have s1 := HL.out.c1 (g := w18.heap.size) (X := nb.c) (by simp); have s2 := HL.out.c2 (g := w18.heap.size) (X := nb.c) (by simp); have s3 := HL.out.c3 (g := w18.heap.size) (X := nb.c) (by simp); have s4 := HL.out.c4 (g := w18.heap.size) (X := nb.c) (by simp); have t0 := HL.out.c0 (g := w21.heap.size) (X := nb.c) (by simp); have t1 := HL.out.c1 (g := w21.heap.size) (X := nb.c) (by simp); have t2 := HL.out.c2 (g := w21.heap.size) (X := nb.c) (by simp); have t3 := HL.out.c3 (g := w21.heap.size) (X := nb.c) (by simp); have t4 := HL.out.c4 (g := w21.heap.size) (X := nb.c) (by simp)))
            | (go_at_call 18; (try clear s0 s1 s2 s3 s4); (try clear t0 t1 t2 t3 t4); ((with_reducible refine (c_A2Same v24 v27 W.heap.size W.heap.size nl.o.length nl.o _ (HL.out.row (by simp)) (HL.out.row (by simp)) ln3).mono ?_); rintro e w43 ⟨rfl, hb⟩; replace HL := Lib.hid (HL.out.below hb); clear hb))
            | (go_at_call 18; (try clear s0 s1 s2 s3 s4); (try clear t0 t1 t2 t3 t4); ((with_reducible refine (c_A2Same v30 v32 W.heap.size W.heap.size ol.length ol _ (HL.out.row (by simp)) (HL.out.row (by simp)) ln4).mono ?_); rintro e w44 ⟨rfl, hb⟩; replace HL := Lib.hid (HL.out.below hb); clear hb; have s0 := HL.out.c0 (g := gc) (X := x) (by simp); have s1 := HL.out.c1 (g := gc) (X := x) (by simp); have s2 := HL.out.c2 (g := gc) (X := x) (by simp); have s3 := HL.out.c3 (g := gc) (X := x) (by simp); have s4 := HL.out.c4 (g := gc) (X := x) (by simp); have t0 := HL.out.c0 (g := w12.heap.size) (X := Y) (by simp); have t1 := HL.out.c1 (g := w12.heap.size) (X := Y) (by simp); have t2 := HL.out.c2 (g := w12.heap.size) (X := Y) (by simp); have t3 := HL.out.c3 (g := w12.heap.size) (X := Y) (by simp); have t4 := HL.out.c4 (g := w12.heap.size) (X := Y) (by simp)))
            | (go_at_call 19; ((with_reducible refine (CV1.out _).mono ?_); rintro e w45 ⟨rfl, hb⟩; replace HL := Lib.hid (HL.out.below hb); (try clear s0 s1 s2 s3 s4); (try clear t0 t1 t2 t3 t4); have t0 := HL.out.c0 (g := w12.heap.size) (X := Y) (by simp); have t1 := HL.out.c1 (g := w12.heap.size) (X := Y) (by simp); have t2 := HL.out.c2 (g := w12.heap.size) (X := Y) (by simp); have t3 := HL.out.c3 (g := w12.heap.size) (X := Y) (by simp); have t4 := HL.out.c4 (g := w12.heap.size) (X := Y) (by simp); clear hb))
            | (go_at_call 19; ((with_reducible refine (CV2.out _).mono ?_); rintro e w46 ⟨rfl, hb⟩; replace HL := Lib.hid (HL.out.below hb); clear hb)))
          (try clear s0 s1 s2 s3 s4)
          (try clear t0 t1 t2 t3 t4)
          clear qY qB CV1 CV2 CWi HASK
          generalize w10.heap.size = g10 at *
          generalize w12.heap.size = g12 at *
          generalize w18.heap.size = g19 at *
          generalize w21.heap.size = g22 at *
          clear n1 n2
          go_wp2
          go_loopw [34] (fun iv wr => ∃ i : Nat, i ≤ L.length ∧ iv = .int .i64 (i : Int) ∧ Hid (Lay W [(g22, nb.c), (g19, nb.c), (g12, Y), (g10, Y), (gc, x)] [(v32, ol), (v30, ol), (v27, nl.o), (v24, nl.o), (v21, nb.o), (v18, nb.o), (v16, ns.o), (v14, ns.o), (.slice (some ⟨g8, 0, none⟩) zs.length c8, zs)] gp cp L wr)) (fun i _ => L.length - (intOf i).toNat)
          case atStart => exact ⟨0, by omega, rfl, HL⟩
          case round => as_aux_lemma =>
            clear HL
            obtain ⟨i, hi, rfl, HL⟩ := hrel
            by_cases hiL : i < L.length
            · as_aux_lemma =>
              have d1 : decide ((i : Int) < (L.length : Int)) = true := by simp; omega
              have k0 : (0 : Int) ≤ (i : Int) := by omega
              have k1 : (i : Int) < (L.length : Int) := by omega
              obtain ⟨gp0, gq0, gr0⟩ := HG.out i hiL
              have hh : decide ((i : Int) ∈ ol) = (feltsV x.d x.e (pF L i) (qF L i) == 0) := by
                rw [HOL.out, Bool.eq_iff_iff, decide_eq_true_eq, gent_has x.d x.e (pF L) (qF L) L.length hiL, beq_iff_eq]
              have hfe := feltsBy_of (r := rF L i) OK.out gp0 gq0 gr0
              have hf0 := (feltsV_bd OK.out.d OK.out.e gp0 gq0).1
              generalize feltsV x.d x.e (pF L i) (qF L i) = fv at *
              have df : decide (fv < 0) = false := by simp; omega
              have CF1 := Lib.hid (fun w => hfe ▸ c_iFeltsBy x.a x.b x.c x.d x.e (pF L i) (qF L i) (rF L i) w HXA.out HXB.out)
              have CF2 := Lib.hid (fun w => hfe ▸ c_sFeltsBy x.a x.b x.c x.d x.e (pF L i) (qF L i) (rF L i) w HXA.out HXB.out)
              have CH := Lib.hid (fun w h => hh ▸ c_A2Has ol (i : Int) v32 W.heap.size ol.length w h ln4)
              have CP := Lib.hid (fun w => okProg_of gp0 gq0 gr0 ▸ c_iValidProgram (pF L i) (qF L i) (rF L i) w)
              clear hh hfe gp0 gq0 gr0
              have s0 := HL.out.c0 (g := gc) (X := x) (by simp)
              have s1 := HL.out.c1 (g := gc) (X := x) (by simp)
              have s2 := HL.out.c2 (g := gc) (X := x) (by simp)
              have s3 := HL.out.c3 (g := gc) (X := x) (by simp)
              have s4 := HL.out.c4 (g := gc) (X := x) (by simp)
              obtain ⟨p0, p1, p2⟩ := HL.out.pr hiL
              replace HL : Hid (Lay W [(g22, nb.c), (g19, nb.c), (g12, Y), (g10, Y), (gc, x)] [(v32, ol), (v30, ol), (v27, nl.o), (v24, nl.o), (v21, nb.o), (v18, nb.o), (v16, ns.o), (v14, ns.o), (.slice (some ⟨g8, 0, none⟩) zs.length c8, zs)] gp cp L wr.drew) := HL.out.drew 1
              go_wp2
              (first
                | go_region_held3 (fun w' => w'.cell? ⟨gc, 0, none⟩ = some (.int .i16 x.a) ∧ w'.cell? ⟨gc, 1, none⟩ = some (.int .i16 x.b) ∧ w'.cell? ⟨gc, 2, none⟩ = some (.int .i8 x.c) ∧ w'.cell? ⟨gc, 3, none⟩ = some (.int .i8 x.d) ∧ w'.cell? ⟨gc, 4, none⟩ = some (.int .i8 x.e) ∧ w'.cell? ⟨gp, i * 3, none⟩ = some (.int .i8 (pF L i)) ∧ w'.cell? ⟨gp, i * 3 + 1, none⟩ = some (.int .i8 (qF L i)) ∧ w'.cell? ⟨gp, i * 3 + 2, none⟩ = some (.int .i8 (rF L i))) (simp [*, go_sem]) (first | (go_at_call 20; ((with_reducible refine (CF1.out _).mono ?_); rintro e w50 ⟨rfl, hb⟩; replace HL := Lib.hid (HL.out.below hb); have s0 := HL.out.c0 (g := gc) (X := x) (by simp); have s1 := HL.out.c1 (g := gc) (X := x) (by simp); have s2 := HL.out.c2 (g := gc) (X := x) (by simp); have s3 := HL.out.c3 (g := gc) (X := x) (by simp); have s4 := HL.out.c4 (g := gc) (X := x) (by simp); obtain ⟨p0, p1, p2⟩ := HL.out.pr hiL; clear hb)))
                | fail)
              clear s0 s1 s2 s3 s4 p0 p1 p2
              have s0 := HL.out.c0 (g := gc) (X := x) (by simp)
              have s1 := HL.out.c1 (g := gc) (X := x) (by simp)
              have s2 := HL.out.c2 (g := gc) (X := x) (by simp)
              have s3 := HL.out.c3 (g := gc) (X := x) (by simp)
              have s4 := HL.out.c4 (g := gc) (X := x) (by simp)
              obtain ⟨p0, p1, p2⟩ := HL.out.pr hiL
              replace HL : Hid (Lay W [(g22, nb.c), (g19, nb.c), (g12, Y), (g10, Y), (gc, x)] [(v32, ol), (v30, ol), (v27, nl.o), (v24, nl.o), (v21, nb.o), (v18, nb.o), (v16, ns.o), (v14, ns.o), (.slice (some ⟨g8, 0, none⟩) zs.length c8, zs)] gp cp L w50.drew) := HL.out.drew 1
              go_wp2
              (first
                | go_region_held3 (fun w' => w'.cell? ⟨gc, 0, none⟩ = some (.int .i16 x.a) ∧ w'.cell? ⟨gc, 1, none⟩ = some (.int .i16 x.b) ∧ w'.cell? ⟨gc, 2, none⟩ = some (.int .i8 x.c) ∧ w'.cell? ⟨gc, 3, none⟩ = some (.int .i8 x.d) ∧ w'.cell? ⟨gc, 4, none⟩ = some (.int .i8 x.e) ∧ w'.cell? ⟨gp, i * 3, none⟩ = some (.int .i8 (pF L i)) ∧ w'.cell? ⟨gp, i * 3 + 1, none⟩ = some (.int .i8 (qF L i)) ∧ w'.cell? ⟨gp, i * 3 + 2, none⟩ = some (.int .i8 (rF L i))) (simp [*, go_sem]) (first | (go_at_call 21; ((with_reducible refine (CF2.out _).mono ?_); rintro e w51 ⟨rfl, hb⟩; replace HL := Lib.hid (HL.out.below hb); have s0 := HL.out.c0 (g := gc) (X := x) (by simp); have s1 := HL.out.c1 (g := gc) (X := x) (by simp); have s2 := HL.out.c2 (g := gc) (X := x) (by simp); have s3 := HL.out.c3 (g := gc) (X := x) (by simp); have s4 := HL.out.c4 (g := gc) (X := x) (by simp); obtain ⟨p0, p1, p2⟩ := HL.out.pr hiL; clear hb)))
                | fail)
              go_wp2_with (first
                | (go_at_call 22; ((with_reducible refine (CH.out _ (HL.out.row (by simp))).mono ?_); rintro e w52 ⟨rfl, rfl⟩))
                | (go_at_call 23; ((with_reducible refine (CP.out _).mono ?_); rintro e w53 ⟨rfl, hb⟩; replace HL := Lib.hid (HL.out.below hb); clear hb)))
              go_roundw
              case rel => exact ⟨i + 1, by omega, by go_num, HL⟩
              case measure => simp [intOf]; omega
            · as_aux_lemma =>
              obtain rfl : i = L.length := by omega
              have d1 : decide ((L.length : Int) < (L.length : Int)) = false := by simp
              clear HG
              have HFG := Lib.hid HL.out.fresh
              have HWN := Lib.hid HL.out.b.size
              go_wp2_with (first
                | ((with_reducible refine ev_ld 27 5 gc 27 #[.int .i16 x.a, .int .i16 x.b, .int .i8 x.c, .int .i8 x.d, .int .i8 x.e] (0, 0) _ ?_ ?_ Try.underlying27 ?_ ?_ ?_); exact rfl; exact HL.out.blk (X := x) (by simp); exact rfl; exact HI5.out)
                | ((with_reducible refine ev_st 27 39 305 (wr.heap.size) #[.int .i16 x.a, .int .i16 x.b, .int .i8 x.c, .int .i8 x.d, .int .i8 x.e] 27 _ ?_ ?_ (heap_alloc_new wr _) ?_ ?_ ?_ ?_); exact rfl; exact rfl; exact HI5.out; exact Eq.refl (5 : Nat); exact oneCl _; intro wS hblk ht; have hb := tou_newM ht; clear ht; replace HL := Lib.hid (HL.out.below hb); replace HL := Lib.hid (HL.out.addK (washN (pF L) (qF L) (rF L) zs x 0) hblk); clear hblk hb))
              generalize wr.heap.size = gn at *
              go_loopw [40] (fun kv wr => ∃ k : Nat, k ≤ zs.length ∧ kv = .int .i64 (k : Int) ∧ Hid (Lay W ((gn, washN (pF L) (qF L) (rF L) zs x k) :: [(g22, nb.c), (g19, nb.c), (g12, Y), (g10, Y), (gc, x)]) [(v32, ol), (v30, ol), (v27, nl.o), (v24, nl.o), (v21, nb.o), (v18, nb.o), (v16, ns.o), (v14, ns.o), (.slice (some ⟨g8, 0, none⟩) zs.length c8, zs)] gp cp L wr)) (fun k _ => zs.length - (intOf k).toNat)
              case atStart => exact ⟨0, by omega, rfl, HL⟩
              case round => as_aux_lemma =>
                clear HL
                obtain ⟨k, hk, rfl, HL⟩ := hrel
                by_cases hkz : k < zs.length
                · as_aux_lemma =>
                  have d2 : decide ((k : Int) < (zs.length : Int)) = true := by simp; omega
                  have k0 : (0 : Int) ≤ (k : Int) := by omega
                  have k1 : (k : Int) < (zs.length : Int) := by omega
                  obtain ⟨z0, z1⟩ := inB_bd (HZ.out k hkz)
                  obtain ⟨i, hzi⟩ := Int.eq_ofNat_of_zero_le z0
                  have hi : i < L.length := by omega
                  have i0 : (0 : Int) ≤ (i : Int) := by omega
                  have i1 : (i : Int) < (L.length : Int) := by omega
                  have HZI := Lib.hid hzi
                  have HRM : Hid ((Value.slice (some ⟨g8, 0, none⟩) zs.length c8, zs) ∈ [(v32, ol), (v30, ol), (v27, nl.o), (v24, nl.o), (v21, nb.o), (v18, nb.o), (v16, ns.o), (v14, ns.o), (.slice (some ⟨g8, 0, none⟩) zs.length c8, zs)]) := by simp [Hid]
                  have hXs : washN (pF L) (qF L) (rF L) zs x (k + 1) = washC (washN (pF L) (qF L) (rF L) zs x k) (pF L i) (qF L i) (rF L i) := by rw [washN, hzi, Int.toNat_natCast]
                  have hXO := washN_ok (n := L.length) OK.out HPR.out HZ.out k (by omega)
                  have hZO := washN_ok (n := L.length) OK.out HPR.out HZ.out (k + 1) (by omega)
                  obtain ⟨gp0, gq0, gr0⟩ := HPR.out i hi
                  have hwo := washOnce_of hXO gp0 gq0 gr0
                  have hst := wash_step hXO gp0 gq0 gr0
                  rw [← hXs] at hwo hst
                  have HXS := Lib.hid hXs
                  obtain ⟨Z, hZ⟩ : ∃ Z, washN (pF L) (qF L) (rF L) zs x (k + 1) = Z := ⟨_, rfl⟩
                  rw [hZ] at hwo hst hZO
                  have HZE := Lib.hid hZ
                  obtain ⟨X, hX⟩ : ∃ X, washN (pF L) (qF L) (rF L) zs x k = X := ⟨_, rfl⟩
                  rw [hX] at hwo hst hXO HL
                  have HXE := Lib.hid hX
                  have HST := Lib.hid hst
                  have xa := hXO.a
                  have xb := hXO.b
                  have CO1 := Lib.hid (fun w => hwo ▸ c_iWashOnce X.a X.b X.c X.d X.e (pF L i) (qF L i) (rF L i) w (by omega) (by omega))
                  have CO2 := Lib.hid (fun w => hwo ▸ c_sWashOnce X.a X.b X.c X.d X.e (pF L i) (qF L i) (rF L i) w (by omega) (by omega))
                  clear z0 z1 hzi hXs hwo hZ hX xa xb gp0 gq0 gr0 hst
                  obtain ⟨⟨s0, s1, s2, s3, s4, s5, s6, s7, s8⟩, -⟩ := ws_mk HRM.out hkz HZI.out hi HL.out
                  go_wp2
                  go_cut [41, 42] (fun pv cv wx => ∃ g, pv = .pointer (some ⟨g, 0, none⟩) ∧ cv = .int .i64 0 ∧ Hid (Lay W ((g, Z) :: (gn, X) :: [(g22, nb.c), (g19, nb.c), (g12, Y), (g10, Y), (gc, x)]) [(v32, ol), (v30, ol), (v27, nl.o), (v24, nl.o), (v21, nb.o), (v18, nb.o), (v16, ns.o), (v14, ns.o), (.slice (some ⟨g8, 0, none⟩) zs.length c8, zs)] gp cp L wx))
                  case first => as_aux_lemma =>
                    have HLd : Hid (Lay W ((gn, X) :: [(g22, nb.c), (g19, nb.c), (g12, Y), (g10, Y), (gc, x)]) [(v32, ol), (v30, ol), (v27, nl.o), (v24, nl.o), (v21, nb.o), (v18, nb.o), (v16, ns.o), (v14, ns.o), (.slice (some ⟨g8, 0, none⟩) zs.length c8, zs)] gp cp L wr.drew) := HL.out.drew 1
                    have HFR := Lib.hid HL.out.fresh
                    have HWG := Lib.hid HL.out.b.size
                    (first
                      | go_region_held3 (fun w' => (w'.cell? ⟨gn, 0, none⟩ = some (.int .i16 X.a) ∧ w'.cell? ⟨gn, 1, none⟩ = some (.int .i16 X.b) ∧ w'.cell? ⟨gn, 2, none⟩ = some (.int .i8 X.c) ∧ w'.cell? ⟨gn, 3, none⟩ = some (.int .i8 X.d) ∧ w'.cell? ⟨gn, 4, none⟩ = some (.int .i8 X.e) ∧ w'.cell? ⟨g8, k, none⟩ = some (.int .i64 (i : Int)) ∧ w'.cell? ⟨gp, i * 3, none⟩ = some (.int .i8 (pF L i)) ∧ w'.cell? ⟨gp, i * 3 + 1, none⟩ = some (.int .i8 (qF L i)) ∧ w'.cell? ⟨gp, i * 3 + 2, none⟩ = some (.int .i8 (rF L i))) ∧ Hid (Lay W ((gn, X) :: [(g22, nb.c), (g19, nb.c), (g12, Y), (g10, Y), (gc, x)]) [(v32, ol), (v30, ol), (v27, nl.o), (v24, nl.o), (v21, nb.o), (v18, nb.o), (v16, ns.o), (v14, ns.o), (.slice (some ⟨g8, 0, none⟩) zs.length c8, zs)] gp cp L w'))
                          (first
                            | exact ws_mk HRM.out hkz HZI.out hi HLd.out
                            | (with_reducible exact ws_alloc HRM.out hkz HZI.out hi _ (by assumption))
                            | (with_reducible exact ws_allocd HRM.out hkz HZI.out hi _ (by assumption))
                            | exact ws_below HRM.out hkz HZI.out hi hb (by assumption)
                            | exact ws_mk HRM.out hkz HZI.out hi (HL60.out.below (below_alloc (Below.refl _ _) _))
                            | exact ws_mk HRM.out hkz HZI.out hi (HL60.out.sets5 HWG.out HFR.out _ _ _ _ _))
                          (first
                            | (go_at_call 24; ((with_reducible refine (CO1.out _).mono ?_); rintro e w60 ⟨rfl, hb⟩; have HL60 := Lib.hid ((ws_L (by assumption)).below hb); (try (have hq := blk_below (show (wr.alloc (.cells #[.int .i16 0, .int .i16 0, .int .i8 0, .int .i8 0, .int .i8 0] 27 (0, 0))).drew.heap[wr.heap.size]? = _ from heap_alloc_new wr _) hb; have HL61 := Lib.hid HL60.out; have q0 : w60.cell? ⟨wr.heap.size, 0, none⟩ = some (.int .i16 0) := cell_of_row _ _ 0 _ _ _ hq; have fq0 := blk_frozen hq 0; have q1 : w60.cell? ⟨wr.heap.size, 1, none⟩ = some (.int .i16 0) := cell_of_row _ _ 1 _ _ _ hq; have fq1 := blk_frozen hq 1; have q2 : w60.cell? ⟨wr.heap.size, 2, none⟩ = some (.int .i8 0) := cell_of_row _ _ 2 _ _ _ hq; have fq2 := blk_frozen hq 2; have q3 : w60.cell? ⟨wr.heap.size, 3, none⟩ = some (.int .i8 0) := cell_of_row _ _ 3 _ _ _ hq; have fq3 := blk_frozen hq 3; have q4 : w60.cell? ⟨wr.heap.size, 4, none⟩ = some (.int .i8 0) := cell_of_row _ _ 4 _ _ _ hq; have fq4 := blk_frozen hq 4))))))
                    all_goals (go_wp2; go_meet)
                    all_goals first
                      | exact ⟨w60.heap.size, rfl, rfl, (HL60.out.below (below_alloc (Below.refl _ _) _)).addK Z (heap_alloc_new w60 _)⟩
                      | exact ⟨wr.heap.size, rfl, rfl, (HL60.out.sets5 HWG.out HFR.out _ _ _ _ _).addK Z (row5 hq _ _ _ _ _)⟩
                      | trace_state
                  case rest => as_aux_lemma =>
                    obtain ⟨g41, rfl, rfl, HL⟩ := hcut
                    replace HL := Lib.hid HL.out.swap
                    obtain ⟨⟨s0, s1, s2, s3, s4, s5, s6, s7, s8⟩, -⟩ := ws_mk HRM.out hkz HZI.out hi HL.out
                    go_wp2
                    go_cut [43, 44] (fun pv cv wx => ∃ g, pv = .pointer (some ⟨g, 0, none⟩) ∧ cv = .int .i64 0 ∧ Hid (Lay W ((g, Z) :: (gn, X) :: (g41, Z) :: [(g22, nb.c), (g19, nb.c), (g12, Y), (g10, Y), (gc, x)]) [(v32, ol), (v30, ol), (v27, nl.o), (v24, nl.o), (v21, nb.o), (v18, nb.o), (v16, ns.o), (v14, ns.o), (.slice (some ⟨g8, 0, none⟩) zs.length c8, zs)] gp cp L wx))
                    case first => as_aux_lemma =>
                      have HLd : Hid (Lay W ((gn, X) :: (g41, Z) :: [(g22, nb.c), (g19, nb.c), (g12, Y), (g10, Y), (gc, x)]) [(v32, ol), (v30, ol), (v27, nl.o), (v24, nl.o), (v21, nb.o), (v18, nb.o), (v16, ns.o), (v14, ns.o), (.slice (some ⟨g8, 0, none⟩) zs.length c8, zs)] gp cp L wc.drew) := HL.out.drew 1
                      have HFR := Lib.hid HL.out.fresh
                      have HWG := Lib.hid HL.out.b.size
                      (first
                        | go_region_held3 (fun w' => (w'.cell? ⟨gn, 0, none⟩ = some (.int .i16 X.a) ∧ w'.cell? ⟨gn, 1, none⟩ = some (.int .i16 X.b) ∧ w'.cell? ⟨gn, 2, none⟩ = some (.int .i8 X.c) ∧ w'.cell? ⟨gn, 3, none⟩ = some (.int .i8 X.d) ∧ w'.cell? ⟨gn, 4, none⟩ = some (.int .i8 X.e) ∧ w'.cell? ⟨g8, k, none⟩ = some (.int .i64 (i : Int)) ∧ w'.cell? ⟨gp, i * 3, none⟩ = some (.int .i8 (pF L i)) ∧ w'.cell? ⟨gp, i * 3 + 1, none⟩ = some (.int .i8 (qF L i)) ∧ w'.cell? ⟨gp, i * 3 + 2, none⟩ = some (.int .i8 (rF L i))) ∧ Hid (Lay W ((gn, X) :: (g41, Z) :: [(g22, nb.c), (g19, nb.c), (g12, Y), (g10, Y), (gc, x)]) [(v32, ol), (v30, ol), (v27, nl.o), (v24, nl.o), (v21, nb.o), (v18, nb.o), (v16, ns.o), (v14, ns.o), (.slice (some ⟨g8, 0, none⟩) zs.length c8, zs)] gp cp L w'))
                            (first
                              | exact ws_mk HRM.out hkz HZI.out hi HLd.out
                              | (with_reducible exact ws_alloc HRM.out hkz HZI.out hi _ (by assumption))
                              | (with_reducible exact ws_allocd HRM.out hkz HZI.out hi _ (by assumption))
                              | exact ws_below HRM.out hkz HZI.out hi hb (by assumption)
                              | exact ws_mk HRM.out hkz HZI.out hi (HL60.out.below (below_alloc (Below.refl _ _) _))
                              | exact ws_mk HRM.out hkz HZI.out hi (HL60.out.sets5 HWG.out HFR.out _ _ _ _ _))
                            (first
                              | (go_at_call 25; ((with_reducible refine (CO2.out _).mono ?_); rintro e w60 ⟨rfl, hb⟩; have HL60 := Lib.hid ((ws_L (by assumption)).below hb); (try (have hq := blk_below (show (wc.alloc (.cells #[.int .i16 0, .int .i16 0, .int .i8 0, .int .i8 0, .int .i8 0] 27 (0, 0))).drew.heap[wc.heap.size]? = _ from heap_alloc_new wc _) hb; have HL61 := Lib.hid HL60.out; have q0 : w60.cell? ⟨wc.heap.size, 0, none⟩ = some (.int .i16 0) := cell_of_row _ _ 0 _ _ _ hq; have fq0 := blk_frozen hq 0; have q1 : w60.cell? ⟨wc.heap.size, 1, none⟩ = some (.int .i16 0) := cell_of_row _ _ 1 _ _ _ hq; have fq1 := blk_frozen hq 1; have q2 : w60.cell? ⟨wc.heap.size, 2, none⟩ = some (.int .i8 0) := cell_of_row _ _ 2 _ _ _ hq; have fq2 := blk_frozen hq 2; have q3 : w60.cell? ⟨wc.heap.size, 3, none⟩ = some (.int .i8 0) := cell_of_row _ _ 3 _ _ _ hq; have fq3 := blk_frozen hq 3; have q4 : w60.cell? ⟨wc.heap.size, 4, none⟩ = some (.int .i8 0) := cell_of_row _ _ 4 _ _ _ hq; have fq4 := blk_frozen hq 4))))))
                      all_goals (go_wp2; go_meet)
                      all_goals first
                        | exact ⟨w60.heap.size, rfl, rfl, (HL60.out.below (below_alloc (Below.refl _ _) _)).addK Z (heap_alloc_new w60 _)⟩
                        | exact ⟨wc.heap.size, rfl, rfl, (HL60.out.sets5 HWG.out HFR.out _ _ _ _ _).addK Z (row5 hq _ _ _ _ _)⟩
                        | trace_state
                    case rest => as_aux_lemma =>
                      obtain ⟨g43, rfl, rfl, HL⟩ := hcut
                      obtain ⟨st1, st2, st3, st4, st5⟩ := HST.out
                      have xa := hXO.a
                      have xb := hXO.b
                      have za := hZO.a
                      have zb := hZO.b
                      have hsh := shrunk_of hXO hZO st1 st2 st4
                      have CS := Lib.hid (fun w => hsh ▸ c_iShrunkBy X.a X.b X.c X.d X.e Z.a Z.b Z.c Z.d Z.e w (by omega) (by omega) (by omega) (by omega))
                      have q1 : decide (X.a - Z.a < 0) = false := by simp; omega
                      have q2 : decide (X.b - Z.b < 0) = false := by simp; omega
                      have q3 : (Z.a + (X.a - Z.a) != X.a) = false := by simp; omega
                      have q4 : (Z.b + (X.b - Z.b) != X.b) = false := by simp; omega
                      have q5 : decide (X.c < Z.c) = false := by simp; omega
                      have q6 : (Z.e != X.e) = false := by simp [st5]
                      have qZ := fun w => eqX Z w
                      clear st1 st2 st3 st4 st5 hsh s0 s1 s2 s3 s4 s5 s6 s7 s8
                      go_upto_region 37 with (first
                        | ((with_reducible refine ev_ld 27 39 gn 27 #[.int .i16 X.a, .int .i16 X.b, .int .i8 X.c, .int .i8 X.d, .int .i8 X.e] (0, 0) _ ?_ ?_ Try.underlying27 ?_ ?_ ?_); exact rfl; exact HL.out.blk (X := X) (by simp); exact rfl; exact HI5.out)
                        | ((with_reducible refine ev_ld 27 43 g43 27 #[.int .i16 Z.a, .int .i16 Z.b, .int .i8 Z.c, .int .i8 Z.d, .int .i8 Z.e] (0, 0) _ ?_ ?_ Try.underlying27 ?_ ?_ ?_); exact rfl; exact HL.out.blk (X := Z) (by simp); exact rfl; exact HI5.out)
                        | (go_at_call 26; ((with_reducible refine (CS.out _).mono ?_); rintro e w70 ⟨rfl, hb⟩; replace HL := Lib.hid (HL.out.below hb); clear hb)))
                      have s0 := HL.out.c0 (g := g41) (X := Z) (by simp)
                      have s1 := HL.out.c1 (g := g41) (X := Z) (by simp)
                      have s2 := HL.out.c2 (g := g41) (X := Z) (by simp)
                      have s3 := HL.out.c3 (g := g41) (X := Z) (by simp)
                      have s4 := HL.out.c4 (g := g41) (X := Z) (by simp)
                      have t0 := HL.out.c0 (g := g43) (X := Z) (by simp)
                      have t1 := HL.out.c1 (g := g43) (X := Z) (by simp)
                      have t2 := HL.out.c2 (g := g43) (X := Z) (by simp)
                      have t3 := HL.out.c3 (g := g43) (X := Z) (by simp)
                      have t4 := HL.out.c4 (g := g43) (X := Z) (by simp)
                      have u0 := HL.out.c0 (g := gn) (X := X) (by simp)
                      have u1 := HL.out.c1 (g := gn) (X := X) (by simp)
                      have u2 := HL.out.c2 (g := gn) (X := X) (by simp)
                      have u3 := HL.out.c3 (g := gn) (X := X) (by simp)
                      have u4 := HL.out.c4 (g := gn) (X := X) (by simp)
                      go_upto_region 39 with (fail)
                      clear q1 q2 q3 q4 q5 q6 qZ s0 s1 s2 s3 s4 u0 u1 u2 u3 u4
                      have q7 : (Z.c == 0) = false := by rw [← HZE.out]; exact dirt_none HNO.out (by omega) (fun j hj => HZ.out j (by omega))
                      go_upto_region 41 with (fail)
                      clear q7
                      clear t0 t1 t2 t3 t4
                      go_wp2_with (first
                        | ((with_reducible refine ev_ld 27 43 g43 27 #[.int .i16 Z.a, .int .i16 Z.b, .int .i8 Z.c, .int .i8 Z.d, .int .i8 Z.e] (0, 0) _ ?_ ?_ Try.underlying27 ?_ ?_ ?_); exact rfl; exact HL.out.blk (X := Z) (by simp); exact rfl; exact HI5.out)
                        | ((with_reducible refine ev_st 27 39 435 gn #[.int .i16 Z.a, .int .i16 Z.b, .int .i8 Z.c, .int .i8 Z.d, .int .i8 Z.e] 27 _ ?_ ?_ (HL.out.blk (X := X) (by simp)) ?_ ?_ ?_ ?_); exact rfl; exact rfl; exact HI5.out; exact Eq.refl (5 : Nat); exact oneCl _; intro wS hblk ht; replace HL := Lib.hid (((HL.out.sub (K' := [(g22, nb.c), (g19, nb.c), (g12, Y), (g10, Y), (gc, x)]) (fun p hp => List.mem_cons_of_mem _ (List.mem_cons_of_mem _ (List.mem_cons_of_mem _ hp)))).tou ht HWN.out HFG.out.1 HFG.out.2.1 HFG.out.2.2).addK Z hblk); clear hblk ht))
                      go_roundw
                      case rel => exact ⟨k + 1, by omega, by go_num, HZE.out ▸ HL⟩
                      case measure => simp [intOf]; omega
                · as_aux_lemma =>
                  obtain rfl : k = zs.length := by omega
                  rw [HYE.out] at HL
                  have d2 : decide ((zs.length : Int) < (zs.length : Int)) = false := by simp
                  have s0 := HL.out.c0 (g := gn) (X := Y) (by simp)
                  have s1 := HL.out.c1 (g := gn) (X := Y) (by simp)
                  have s2 := HL.out.c2 (g := gn) (X := Y) (by simp)
                  have s3 := HL.out.c3 (g := gn) (X := Y) (by simp)
                  have s4 := HL.out.c4 (g := gn) (X := Y) (by simp)
                  have t0 := HL.out.c0 (g := g12) (X := Y) (by simp)
                  have t1 := HL.out.c1 (g := g12) (X := Y) (by simp)
                  have t2 := HL.out.c2 (g := g12) (X := Y) (by simp)
                  have t3 := HL.out.c3 (g := g12) (X := Y) (by simp)
                  have t4 := HL.out.c4 (g := g12) (X := Y) (by simp)
                  have qY := fun w => eqX Y w
                  go_upto_region 44 with (fail)
                  clear qY d1 d2 s0 s1 s2 s3 s4 t0 t1 t2 t3 t4
                  have s0 := HL.out.c0 (g := gc) (X := x) (by simp)
                  have s1 := HL.out.c1 (g := gc) (X := x) (by simp)
                  have s2 := HL.out.c2 (g := gc) (X := x) (by simp)
                  have s3 := HL.out.c3 (g := gc) (X := x) (by simp)
                  have s4 := HL.out.c4 (g := gc) (X := x) (by simp)
                  have q7 : (x.c == 0) = false := dirt_none (zs := zs) (m := 0) HNO.out (by omega) (fun j hj => by omega)
                  go_upto_region 46 with (fail)
                  clear q7 s0 s1 s2 s3 s4
                  have q8 : decide (0 < Y.c) = true := by have h1 := dirt_none (m := zs.length) HNO.out (by omega) (fun j hj => HZ.out j hj); rw [HYE.out] at h1; have h2 := HYO.out.c; simp at h1; simp; omega
                  have s0 := HL.out.c0 (g := g12) (X := Y) (by simp)
                  have s1 := HL.out.c1 (g := g12) (X := Y) (by simp)
                  have s2 := HL.out.c2 (g := g12) (X := Y) (by simp)
                  have s3 := HL.out.c3 (g := g12) (X := Y) (by simp)
                  have s4 := HL.out.c4 (g := g12) (X := Y) (by simp)
                  go_wp2
                  go_ret
                  exact ⟨rfl, HL.out.b⟩
        · as_aux_lemma =>
          have HGD := Lib.hid (good_of HCASE.out)
          clear HCASE
          simp only [List.append_eq, List.cons_append, List.nil_append]
          go_upto_region 23 with (first
            | (go_at_call 18; (try clear s0 s1 s2 s3 s4); (try clear t0 t1 t2 t3 t4); ((with_reducible refine (c_A2Same v14 v16 W.heap.size W.heap.size ns.o.length ns.o _ (HL.out.row (by simp)) (HL.out.row (by simp)) ln1).mono ?_); rintro e w41 ⟨rfl, hb⟩; replace HL := Lib.hid (HL.out.below hb); clear hb; have s0 := HL.out.c0 (g := w18.heap.size) (X := nb.c) (by simp); have s1 := HL.out.c1 (g := w18.heap.size) (X := nb.c) (by simp); have s2 := HL.out.c2 (g := w18.heap.size) (X := nb.c) (by simp); have s3 := HL.out.c3 (g := w18.heap.size) (X := nb.c) (by simp); have s4 := HL.out.c4 (g := w18.heap.size) (X := nb.c) (by simp); have t0 := HL.out.c0 (g := w21.heap.size) (X := nb.c) (by simp); have t1 := HL.out.c1 (g := w21.heap.size) (X := nb.c) (by simp); have t2 := HL.out.c2 (g := w21.heap.size) (X := nb.c) (by simp); have t3 := HL.out.c3 (g := w21.heap.size) (X := nb.c) (by simp); have t4 := HL.out.c4 (g := w21.heap.size) (X := nb.c) (by simp)))
            | (go_at_call 18; (try clear s0 s1 s2 s3 s4); (try clear t0 t1 t2 t3 t4); ((with_reducible refine (c_A2Same v18 v21 W.heap.size W.heap.size nb.o.length nb.o _ (HL.out.row (by simp)) (HL.out.row (by simp)) ln2).mono ?_); rintro e w42 ⟨rfl, hb⟩; replace HL := Lib.hid (HL.out.below hb); clear hb; have s0 := HL.out.c0 (g := w18.heap.size) (X := nb.c) (by simp); have s1 := HL.out.c1 (g := w18.heap.size) (X := nb.c) (by simp); have s2 := HL.out.c2 (g := w18.heap.size) (X := nb.c) (by simp); have s3 := HL.out.c3 (g := w18.heap.size) (X := nb.c) (by simp); have s4 := HL.out.c4 (g := w18.heap.size) (X := nb.c) (by simp); have t0 := HL.out.c0 (g := w21.heap.size) (X := nb.c) (by simp); have t1 := HL.out.c1 (g := w21.heap.size) (X := nb.c) (by simp); have t2 := HL.out.c2 (g := w21.heap.size) (X := nb.c) (by simp); have t3 := HL.out.c3 (g := w21.heap.size) (X := nb.c) (by simp); have t4 := HL.out.c4 (g := w21.heap.size) (X := nb.c) (by simp)))
            | (go_at_call 18; (try clear s0 s1 s2 s3 s4); (try clear t0 t1 t2 t3 t4); ((with_reducible refine (c_A2Same v24 v27 W.heap.size W.heap.size nl.o.length nl.o _ (HL.out.row (by simp)) (HL.out.row (by simp)) ln3).mono ?_); rintro e w43 ⟨rfl, hb⟩; replace HL := Lib.hid (HL.out.below hb); clear hb))
            | (go_at_call 18; (try clear s0 s1 s2 s3 s4); (try clear t0 t1 t2 t3 t4); ((with_reducible refine (c_A2Same v30 v32 W.heap.size W.heap.size ol.length ol _ (HL.out.row (by simp)) (HL.out.row (by simp)) ln4).mono ?_); rintro e w44 ⟨rfl, hb⟩; replace HL := Lib.hid (HL.out.below hb); clear hb; have s0 := HL.out.c0 (g := gc) (X := x) (by simp); have s1 := HL.out.c1 (g := gc) (X := x) (by simp); have s2 := HL.out.c2 (g := gc) (X := x) (by simp); have s3 := HL.out.c3 (g := gc) (X := x) (by simp); have s4 := HL.out.c4 (g := gc) (X := x) (by simp); have t0 := HL.out.c0 (g := w12.heap.size) (X := Y) (by simp); have t1 := HL.out.c1 (g := w12.heap.size) (X := Y) (by simp); have t2 := HL.out.c2 (g := w12.heap.size) (X := Y) (by simp); have t3 := HL.out.c3 (g := w12.heap.size) (X := Y) (by simp); have t4 := HL.out.c4 (g := w12.heap.size) (X := Y) (by simp)))
            | (go_at_call 19; ((with_reducible refine (CV1.out _).mono ?_); rintro e w45 ⟨rfl, hb⟩; replace HL := Lib.hid (HL.out.below hb); (try clear s0 s1 s2 s3 s4); (try clear t0 t1 t2 t3 t4); have t0 := HL.out.c0 (g := w12.heap.size) (X := Y) (by simp); have t1 := HL.out.c1 (g := w12.heap.size) (X := Y) (by simp); have t2 := HL.out.c2 (g := w12.heap.size) (X := Y) (by simp); have t3 := HL.out.c3 (g := w12.heap.size) (X := Y) (by simp); have t4 := HL.out.c4 (g := w12.heap.size) (X := Y) (by simp); clear hb))
            | (go_at_call 19; ((with_reducible refine (CV2.out _).mono ?_); rintro e w46 ⟨rfl, hb⟩; replace HL := Lib.hid (HL.out.below hb); clear hb)))
          obtain ⟨A16, c16, rfl, -⟩ := own_form (HL.out.row (v := v16) (zs := ns.o) (by simp))
          obtain ⟨A21, c21, rfl, -⟩ := own_form (HL.out.row (v := v21) (zs := nb.o) (by simp))
          obtain ⟨A27, c27, rfl, -⟩ := own_form (HL.out.row (v := v27) (zs := nl.o) (by simp))
          (try clear s0 s1 s2 s3 s4)
          (try clear t0 t1 t2 t3 t4)
          clear qY qB CV1 CV2 CWi HASK
          generalize w10.heap.size = g10 at *
          generalize w12.heap.size = g12 at *
          generalize w18.heap.size = g19 at *
          generalize w21.heap.size = g22 at *
          clear n1 n2
          go_wp2
          go_loopw [34] (fun iv wr => ∃ i : Nat, i ≤ L.length ∧ iv = .int .i64 (i : Int) ∧ Hid (Lay W [(g22, nb.c), (g19, nb.c), (g12, Y), (g10, Y), (gc, x)] [(v32, ol), (v30, ol), (.slice A27 nl.o.length c27, nl.o), (v24, nl.o), (.slice A21 nb.o.length c21, nb.o), (v18, nb.o), (.slice A16 ns.o.length c16, ns.o), (v14, ns.o), (.slice (some ⟨g8, 0, none⟩) zs.length c8, zs)] gp cp L wr)) (fun i _ => L.length - (intOf i).toNat)
          case atStart => exact ⟨0, by omega, rfl, HL⟩
          case round => as_aux_lemma =>
            clear HL
            obtain ⟨i, hi, rfl, HL⟩ := hrel
            by_cases hiL : i < L.length
            · as_aux_lemma =>
              have d1 : decide ((i : Int) < (L.length : Int)) = true := by simp; omega
              have k0 : (0 : Int) ≤ (i : Int) := by omega
              have k1 : (i : Int) < (L.length : Int) := by omega
              obtain ⟨gp0, gq0, gr0⟩ := HG.out i hiL
              have hh : decide ((i : Int) ∈ ol) = (feltsV x.d x.e (pF L i) (qF L i) == 0) := by
                rw [HOL.out, Bool.eq_iff_iff, decide_eq_true_eq, gent_has x.d x.e (pF L) (qF L) L.length hiL, beq_iff_eq]
              have hfe := feltsBy_of (r := rF L i) OK.out gp0 gq0 gr0
              have hf0 := (feltsV_bd OK.out.d OK.out.e gp0 gq0).1
              generalize feltsV x.d x.e (pF L i) (qF L i) = fv at *
              have df : decide (fv < 0) = false := by simp; omega
              have CF1 := Lib.hid (fun w => hfe ▸ c_iFeltsBy x.a x.b x.c x.d x.e (pF L i) (qF L i) (rF L i) w HXA.out HXB.out)
              have CF2 := Lib.hid (fun w => hfe ▸ c_sFeltsBy x.a x.b x.c x.d x.e (pF L i) (qF L i) (rF L i) w HXA.out HXB.out)
              have CH := Lib.hid (fun w h => hh ▸ c_A2Has ol (i : Int) v32 W.heap.size ol.length w h ln4)
              have CP := Lib.hid (fun w => okProg_of gp0 gq0 gr0 ▸ c_iValidProgram (pF L i) (qF L i) (rF L i) w)
              clear hh hfe gp0 gq0 gr0
              have s0 := HL.out.c0 (g := gc) (X := x) (by simp)
              have s1 := HL.out.c1 (g := gc) (X := x) (by simp)
              have s2 := HL.out.c2 (g := gc) (X := x) (by simp)
              have s3 := HL.out.c3 (g := gc) (X := x) (by simp)
              have s4 := HL.out.c4 (g := gc) (X := x) (by simp)
              obtain ⟨p0, p1, p2⟩ := HL.out.pr hiL
              replace HL : Hid (Lay W [(g22, nb.c), (g19, nb.c), (g12, Y), (g10, Y), (gc, x)] [(v32, ol), (v30, ol), (.slice A27 nl.o.length c27, nl.o), (v24, nl.o), (.slice A21 nb.o.length c21, nb.o), (v18, nb.o), (.slice A16 ns.o.length c16, ns.o), (v14, ns.o), (.slice (some ⟨g8, 0, none⟩) zs.length c8, zs)] gp cp L wr.drew) := HL.out.drew 1
              go_wp2
              (first
                | go_region_held3 (fun w' => w'.cell? ⟨gc, 0, none⟩ = some (.int .i16 x.a) ∧ w'.cell? ⟨gc, 1, none⟩ = some (.int .i16 x.b) ∧ w'.cell? ⟨gc, 2, none⟩ = some (.int .i8 x.c) ∧ w'.cell? ⟨gc, 3, none⟩ = some (.int .i8 x.d) ∧ w'.cell? ⟨gc, 4, none⟩ = some (.int .i8 x.e) ∧ w'.cell? ⟨gp, i * 3, none⟩ = some (.int .i8 (pF L i)) ∧ w'.cell? ⟨gp, i * 3 + 1, none⟩ = some (.int .i8 (qF L i)) ∧ w'.cell? ⟨gp, i * 3 + 2, none⟩ = some (.int .i8 (rF L i))) (simp [*, go_sem]) (first | (go_at_call 20; ((with_reducible refine (CF1.out _).mono ?_); rintro e w50 ⟨rfl, hb⟩; replace HL := Lib.hid (HL.out.below hb); have s0 := HL.out.c0 (g := gc) (X := x) (by simp); have s1 := HL.out.c1 (g := gc) (X := x) (by simp); have s2 := HL.out.c2 (g := gc) (X := x) (by simp); have s3 := HL.out.c3 (g := gc) (X := x) (by simp); have s4 := HL.out.c4 (g := gc) (X := x) (by simp); obtain ⟨p0, p1, p2⟩ := HL.out.pr hiL; clear hb)))
                | fail)
              clear s0 s1 s2 s3 s4 p0 p1 p2
              have s0 := HL.out.c0 (g := gc) (X := x) (by simp)
              have s1 := HL.out.c1 (g := gc) (X := x) (by simp)
              have s2 := HL.out.c2 (g := gc) (X := x) (by simp)
              have s3 := HL.out.c3 (g := gc) (X := x) (by simp)
              have s4 := HL.out.c4 (g := gc) (X := x) (by simp)
              obtain ⟨p0, p1, p2⟩ := HL.out.pr hiL
              replace HL : Hid (Lay W [(g22, nb.c), (g19, nb.c), (g12, Y), (g10, Y), (gc, x)] [(v32, ol), (v30, ol), (.slice A27 nl.o.length c27, nl.o), (v24, nl.o), (.slice A21 nb.o.length c21, nb.o), (v18, nb.o), (.slice A16 ns.o.length c16, ns.o), (v14, ns.o), (.slice (some ⟨g8, 0, none⟩) zs.length c8, zs)] gp cp L w50.drew) := HL.out.drew 1
              go_wp2
              (first
                | go_region_held3 (fun w' => w'.cell? ⟨gc, 0, none⟩ = some (.int .i16 x.a) ∧ w'.cell? ⟨gc, 1, none⟩ = some (.int .i16 x.b) ∧ w'.cell? ⟨gc, 2, none⟩ = some (.int .i8 x.c) ∧ w'.cell? ⟨gc, 3, none⟩ = some (.int .i8 x.d) ∧ w'.cell? ⟨gc, 4, none⟩ = some (.int .i8 x.e) ∧ w'.cell? ⟨gp, i * 3, none⟩ = some (.int .i8 (pF L i)) ∧ w'.cell? ⟨gp, i * 3 + 1, none⟩ = some (.int .i8 (qF L i)) ∧ w'.cell? ⟨gp, i * 3 + 2, none⟩ = some (.int .i8 (rF L i))) (simp [*, go_sem]) (first | (go_at_call 21; ((with_reducible refine (CF2.out _).mono ?_); rintro e w51 ⟨rfl, hb⟩; replace HL := Lib.hid (HL.out.below hb); have s0 := HL.out.c0 (g := gc) (X := x) (by simp); have s1 := HL.out.c1 (g := gc) (X := x) (by simp); have s2 := HL.out.c2 (g := gc) (X := x) (by simp); have s3 := HL.out.c3 (g := gc) (X := x) (by simp); have s4 := HL.out.c4 (g := gc) (X := x) (by simp); obtain ⟨p0, p1, p2⟩ := HL.out.pr hiL; clear hb)))
                | fail)
              go_wp2_with (first
                | (go_at_call 22; ((with_reducible refine (CH.out _ (HL.out.row (by simp))).mono ?_); rintro e w52 ⟨rfl, rfl⟩))
                | (go_at_call 23; ((with_reducible refine (CP.out _).mono ?_); rintro e w53 ⟨rfl, hb⟩; replace HL := Lib.hid (HL.out.below hb); clear hb)))
              go_roundw
              case rel => exact ⟨i + 1, by omega, by go_num, HL⟩
              case measure => simp [intOf]; omega
            · as_aux_lemma =>
              obtain rfl : i = L.length := by omega
              have d1 : decide ((L.length : Int) < (L.length : Int)) = false := by simp
              clear HG
              have HFG := Lib.hid HL.out.fresh
              have HWN := Lib.hid HL.out.b.size
              go_wp2_with (first
                | ((with_reducible refine ev_ld 27 5 gc 27 #[.int .i16 x.a, .int .i16 x.b, .int .i8 x.c, .int .i8 x.d, .int .i8 x.e] (0, 0) _ ?_ ?_ Try.underlying27 ?_ ?_ ?_); exact rfl; exact HL.out.blk (X := x) (by simp); exact rfl; exact HI5.out)
                | ((with_reducible refine ev_st 27 39 305 (wr.heap.size) #[.int .i16 x.a, .int .i16 x.b, .int .i8 x.c, .int .i8 x.d, .int .i8 x.e] 27 _ ?_ ?_ (heap_alloc_new wr _) ?_ ?_ ?_ ?_); exact rfl; exact rfl; exact HI5.out; exact Eq.refl (5 : Nat); exact oneCl _; intro wS hblk ht; have hb := tou_newM ht; clear ht; replace HL := Lib.hid (HL.out.below hb); replace HL := Lib.hid (HL.out.addK (washN (pF L) (qF L) (rF L) zs x 0) hblk); clear hblk hb))
              generalize wr.heap.size = gn at *
              go_loopw [40] (fun kv wr => ∃ k : Nat, k ≤ zs.length ∧ kv = .int .i64 (k : Int) ∧ Hid (Lay W ((gn, washN (pF L) (qF L) (rF L) zs x k) :: [(g22, nb.c), (g19, nb.c), (g12, Y), (g10, Y), (gc, x)]) [(v32, ol), (v30, ol), (.slice A27 nl.o.length c27, nl.o), (v24, nl.o), (.slice A21 nb.o.length c21, nb.o), (v18, nb.o), (.slice A16 ns.o.length c16, ns.o), (v14, ns.o), (.slice (some ⟨g8, 0, none⟩) zs.length c8, zs)] gp cp L wr)) (fun k _ => zs.length - (intOf k).toNat)
              case atStart => exact ⟨0, by omega, rfl, HL⟩
              case round => as_aux_lemma =>
                clear HL
                obtain ⟨k, hk, rfl, HL⟩ := hrel
                by_cases hkz : k < zs.length
                · as_aux_lemma =>
                  have d2 : decide ((k : Int) < (zs.length : Int)) = true := by simp; omega
                  have k0 : (0 : Int) ≤ (k : Int) := by omega
                  have k1 : (k : Int) < (zs.length : Int) := by omega
                  obtain ⟨z0, z1⟩ := inB_bd (HZ.out k hkz)
                  obtain ⟨i, hzi⟩ := Int.eq_ofNat_of_zero_le z0
                  have hi : i < L.length := by omega
                  have i0 : (0 : Int) ≤ (i : Int) := by omega
                  have i1 : (i : Int) < (L.length : Int) := by omega
                  have HZI := Lib.hid hzi
                  have HRM : Hid ((Value.slice (some ⟨g8, 0, none⟩) zs.length c8, zs) ∈ [(v32, ol), (v30, ol), (.slice A27 nl.o.length c27, nl.o), (v24, nl.o), (.slice A21 nb.o.length c21, nb.o), (v18, nb.o), (.slice A16 ns.o.length c16, ns.o), (v14, ns.o), (.slice (some ⟨g8, 0, none⟩) zs.length c8, zs)]) := by simp [Hid]
                  have hXs : washN (pF L) (qF L) (rF L) zs x (k + 1) = washC (washN (pF L) (qF L) (rF L) zs x k) (pF L i) (qF L i) (rF L i) := by rw [washN, hzi, Int.toNat_natCast]
                  have hXO := washN_ok (n := L.length) OK.out HPR.out HZ.out k (by omega)
                  have hZO := washN_ok (n := L.length) OK.out HPR.out HZ.out (k + 1) (by omega)
                  obtain ⟨gp0, gq0, gr0⟩ := HPR.out i hi
                  have hwo := washOnce_of hXO gp0 gq0 gr0
                  have hst := wash_step hXO gp0 gq0 gr0
                  rw [← hXs] at hwo hst
                  have HXS := Lib.hid hXs
                  obtain ⟨Z, hZ⟩ : ∃ Z, washN (pF L) (qF L) (rF L) zs x (k + 1) = Z := ⟨_, rfl⟩
                  rw [hZ] at hwo hst hZO
                  have HZE := Lib.hid hZ
                  obtain ⟨X, hX⟩ : ∃ X, washN (pF L) (qF L) (rF L) zs x k = X := ⟨_, rfl⟩
                  rw [hX] at hwo hst hXO HL
                  have HXE := Lib.hid hX
                  have HST := Lib.hid hst
                  have xa := hXO.a
                  have xb := hXO.b
                  have CO1 := Lib.hid (fun w => hwo ▸ c_iWashOnce X.a X.b X.c X.d X.e (pF L i) (qF L i) (rF L i) w (by omega) (by omega))
                  have CO2 := Lib.hid (fun w => hwo ▸ c_sWashOnce X.a X.b X.c X.d X.e (pF L i) (qF L i) (rF L i) w (by omega) (by omega))
                  clear z0 z1 hzi hXs hwo hZ hX xa xb gp0 gq0 gr0 hst
                  obtain ⟨⟨s0, s1, s2, s3, s4, s5, s6, s7, s8⟩, -⟩ := ws_mk HRM.out hkz HZI.out hi HL.out
                  go_wp2
                  go_cut [41, 42] (fun pv cv wx => ∃ g, pv = .pointer (some ⟨g, 0, none⟩) ∧ cv = .int .i64 0 ∧ Hid (Lay W ((g, Z) :: (gn, X) :: [(g22, nb.c), (g19, nb.c), (g12, Y), (g10, Y), (gc, x)]) [(v32, ol), (v30, ol), (.slice A27 nl.o.length c27, nl.o), (v24, nl.o), (.slice A21 nb.o.length c21, nb.o), (v18, nb.o), (.slice A16 ns.o.length c16, ns.o), (v14, ns.o), (.slice (some ⟨g8, 0, none⟩) zs.length c8, zs)] gp cp L wx))
                  case first => as_aux_lemma =>
                    have HLd : Hid (Lay W ((gn, X) :: [(g22, nb.c), (g19, nb.c), (g12, Y), (g10, Y), (gc, x)]) [(v32, ol), (v30, ol), (.slice A27 nl.o.length c27, nl.o), (v24, nl.o), (.slice A21 nb.o.length c21, nb.o), (v18, nb.o), (.slice A16 ns.o.length c16, ns.o), (v14, ns.o), (.slice (some ⟨g8, 0, none⟩) zs.length c8, zs)] gp cp L wr.drew) := HL.out.drew 1
                    have HFR := Lib.hid HL.out.fresh
                    have HWG := Lib.hid HL.out.b.size
                    (first
                      | go_region_held3 (fun w' => (w'.cell? ⟨gn, 0, none⟩ = some (.int .i16 X.a) ∧ w'.cell? ⟨gn, 1, none⟩ = some (.int .i16 X.b) ∧ w'.cell? ⟨gn, 2, none⟩ = some (.int .i8 X.c) ∧ w'.cell? ⟨gn, 3, none⟩ = some (.int .i8 X.d) ∧ w'.cell? ⟨gn, 4, none⟩ = some (.int .i8 X.e) ∧ w'.cell? ⟨g8, k, none⟩ = some (.int .i64 (i : Int)) ∧ w'.cell? ⟨gp, i * 3, none⟩ = some (.int .i8 (pF L i)) ∧ w'.cell? ⟨gp, i * 3 + 1, none⟩ = some (.int .i8 (qF L i)) ∧ w'.cell? ⟨gp, i * 3 + 2, none⟩ = some (.int .i8 (rF L i))) ∧ Hid (Lay W ((gn, X) :: [(g22, nb.c), (g19, nb.c), (g12, Y), (g10, Y), (gc, x)]) [(v32, ol), (v30, ol), (.slice A27 nl.o.length c27, nl.o), (v24, nl.o), (.slice A21 nb.o.length c21, nb.o), (v18, nb.o), (.slice A16 ns.o.length c16, ns.o), (v14, ns.o), (.slice (some ⟨g8, 0, none⟩) zs.length c8, zs)] gp cp L w'))
                          (first
                            | exact ws_mk HRM.out hkz HZI.out hi HLd.out
                            | (with_reducible exact ws_alloc HRM.out hkz HZI.out hi _ (by assumption))
                            | (with_reducible exact ws_allocd HRM.out hkz HZI.out hi _ (by assumption))
                            | exact ws_below HRM.out hkz HZI.out hi hb (by assumption)
                            | exact ws_mk HRM.out hkz HZI.out hi (HL60.out.below (below_alloc (Below.refl _ _) _))
                            | exact ws_mk HRM.out hkz HZI.out hi (HL60.out.sets5 HWG.out HFR.out _ _ _ _ _))
                          (first
                            | (go_at_call 24; ((with_reducible refine (CO1.out _).mono ?_); rintro e w60 ⟨rfl, hb⟩; have HL60 := Lib.hid ((ws_L (by assumption)).below hb); (try (have hq := blk_below (show (wr.alloc (.cells #[.int .i16 0, .int .i16 0, .int .i8 0, .int .i8 0, .int .i8 0] 27 (0, 0))).drew.heap[wr.heap.size]? = _ from heap_alloc_new wr _) hb; have HL61 := Lib.hid HL60.out; have q0 : w60.cell? ⟨wr.heap.size, 0, none⟩ = some (.int .i16 0) := cell_of_row _ _ 0 _ _ _ hq; have fq0 := blk_frozen hq 0; have q1 : w60.cell? ⟨wr.heap.size, 1, none⟩ = some (.int .i16 0) := cell_of_row _ _ 1 _ _ _ hq; have fq1 := blk_frozen hq 1; have q2 : w60.cell? ⟨wr.heap.size, 2, none⟩ = some (.int .i8 0) := cell_of_row _ _ 2 _ _ _ hq; have fq2 := blk_frozen hq 2; have q3 : w60.cell? ⟨wr.heap.size, 3, none⟩ = some (.int .i8 0) := cell_of_row _ _ 3 _ _ _ hq; have fq3 := blk_frozen hq 3; have q4 : w60.cell? ⟨wr.heap.size, 4, none⟩ = some (.int .i8 0) := cell_of_row _ _ 4 _ _ _ hq; have fq4 := blk_frozen hq 4))))))
                    all_goals (go_wp2; go_meet)
                    all_goals first
                      | exact ⟨w60.heap.size, rfl, rfl, (HL60.out.below (below_alloc (Below.refl _ _) _)).addK Z (heap_alloc_new w60 _)⟩
                      | exact ⟨wr.heap.size, rfl, rfl, (HL60.out.sets5 HWG.out HFR.out _ _ _ _ _).addK Z (row5 hq _ _ _ _ _)⟩
                      | trace_state
                  case rest => as_aux_lemma =>
                    obtain ⟨g41, rfl, rfl, HL⟩ := hcut
                    replace HL := Lib.hid HL.out.swap
                    obtain ⟨⟨s0, s1, s2, s3, s4, s5, s6, s7, s8⟩, -⟩ := ws_mk HRM.out hkz HZI.out hi HL.out
                    go_wp2
                    go_cut [43, 44] (fun pv cv wx => ∃ g, pv = .pointer (some ⟨g, 0, none⟩) ∧ cv = .int .i64 0 ∧ Hid (Lay W ((g, Z) :: (gn, X) :: (g41, Z) :: [(g22, nb.c), (g19, nb.c), (g12, Y), (g10, Y), (gc, x)]) [(v32, ol), (v30, ol), (.slice A27 nl.o.length c27, nl.o), (v24, nl.o), (.slice A21 nb.o.length c21, nb.o), (v18, nb.o), (.slice A16 ns.o.length c16, ns.o), (v14, ns.o), (.slice (some ⟨g8, 0, none⟩) zs.length c8, zs)] gp cp L wx))
                    case first => as_aux_lemma =>
                      have HLd : Hid (Lay W ((gn, X) :: (g41, Z) :: [(g22, nb.c), (g19, nb.c), (g12, Y), (g10, Y), (gc, x)]) [(v32, ol), (v30, ol), (.slice A27 nl.o.length c27, nl.o), (v24, nl.o), (.slice A21 nb.o.length c21, nb.o), (v18, nb.o), (.slice A16 ns.o.length c16, ns.o), (v14, ns.o), (.slice (some ⟨g8, 0, none⟩) zs.length c8, zs)] gp cp L wc.drew) := HL.out.drew 1
                      have HFR := Lib.hid HL.out.fresh
                      have HWG := Lib.hid HL.out.b.size
                      (first
                        | go_region_held3 (fun w' => (w'.cell? ⟨gn, 0, none⟩ = some (.int .i16 X.a) ∧ w'.cell? ⟨gn, 1, none⟩ = some (.int .i16 X.b) ∧ w'.cell? ⟨gn, 2, none⟩ = some (.int .i8 X.c) ∧ w'.cell? ⟨gn, 3, none⟩ = some (.int .i8 X.d) ∧ w'.cell? ⟨gn, 4, none⟩ = some (.int .i8 X.e) ∧ w'.cell? ⟨g8, k, none⟩ = some (.int .i64 (i : Int)) ∧ w'.cell? ⟨gp, i * 3, none⟩ = some (.int .i8 (pF L i)) ∧ w'.cell? ⟨gp, i * 3 + 1, none⟩ = some (.int .i8 (qF L i)) ∧ w'.cell? ⟨gp, i * 3 + 2, none⟩ = some (.int .i8 (rF L i))) ∧ Hid (Lay W ((gn, X) :: (g41, Z) :: [(g22, nb.c), (g19, nb.c), (g12, Y), (g10, Y), (gc, x)]) [(v32, ol), (v30, ol), (.slice A27 nl.o.length c27, nl.o), (v24, nl.o), (.slice A21 nb.o.length c21, nb.o), (v18, nb.o), (.slice A16 ns.o.length c16, ns.o), (v14, ns.o), (.slice (some ⟨g8, 0, none⟩) zs.length c8, zs)] gp cp L w'))
                            (first
                              | exact ws_mk HRM.out hkz HZI.out hi HLd.out
                              | (with_reducible exact ws_alloc HRM.out hkz HZI.out hi _ (by assumption))
                              | (with_reducible exact ws_allocd HRM.out hkz HZI.out hi _ (by assumption))
                              | exact ws_below HRM.out hkz HZI.out hi hb (by assumption)
                              | exact ws_mk HRM.out hkz HZI.out hi (HL60.out.below (below_alloc (Below.refl _ _) _))
                              | exact ws_mk HRM.out hkz HZI.out hi (HL60.out.sets5 HWG.out HFR.out _ _ _ _ _))
                            (first
                              | (go_at_call 25; ((with_reducible refine (CO2.out _).mono ?_); rintro e w60 ⟨rfl, hb⟩; have HL60 := Lib.hid ((ws_L (by assumption)).below hb); (try (have hq := blk_below (show (wc.alloc (.cells #[.int .i16 0, .int .i16 0, .int .i8 0, .int .i8 0, .int .i8 0] 27 (0, 0))).drew.heap[wc.heap.size]? = _ from heap_alloc_new wc _) hb; have HL61 := Lib.hid HL60.out; have q0 : w60.cell? ⟨wc.heap.size, 0, none⟩ = some (.int .i16 0) := cell_of_row _ _ 0 _ _ _ hq; have fq0 := blk_frozen hq 0; have q1 : w60.cell? ⟨wc.heap.size, 1, none⟩ = some (.int .i16 0) := cell_of_row _ _ 1 _ _ _ hq; have fq1 := blk_frozen hq 1; have q2 : w60.cell? ⟨wc.heap.size, 2, none⟩ = some (.int .i8 0) := cell_of_row _ _ 2 _ _ _ hq; have fq2 := blk_frozen hq 2; have q3 : w60.cell? ⟨wc.heap.size, 3, none⟩ = some (.int .i8 0) := cell_of_row _ _ 3 _ _ _ hq; have fq3 := blk_frozen hq 3; have q4 : w60.cell? ⟨wc.heap.size, 4, none⟩ = some (.int .i8 0) := cell_of_row _ _ 4 _ _ _ hq; have fq4 := blk_frozen hq 4))))))
                      all_goals (go_wp2; go_meet)
                      all_goals first
                        | exact ⟨w60.heap.size, rfl, rfl, (HL60.out.below (below_alloc (Below.refl _ _) _)).addK Z (heap_alloc_new w60 _)⟩
                        | exact ⟨wc.heap.size, rfl, rfl, (HL60.out.sets5 HWG.out HFR.out _ _ _ _ _).addK Z (row5 hq _ _ _ _ _)⟩
                        | trace_state
                    case rest => as_aux_lemma =>
                      obtain ⟨g43, rfl, rfl, HL⟩ := hcut
                      obtain ⟨st1, st2, st3, st4, st5⟩ := HST.out
                      have xa := hXO.a
                      have xb := hXO.b
                      have za := hZO.a
                      have zb := hZO.b
                      have hsh := shrunk_of hXO hZO st1 st2 st4
                      have CS := Lib.hid (fun w => hsh ▸ c_iShrunkBy X.a X.b X.c X.d X.e Z.a Z.b Z.c Z.d Z.e w (by omega) (by omega) (by omega) (by omega))
                      have q1 : decide (X.a - Z.a < 0) = false := by simp; omega
                      have q2 : decide (X.b - Z.b < 0) = false := by simp; omega
                      have q3 : (Z.a + (X.a - Z.a) != X.a) = false := by simp; omega
                      have q4 : (Z.b + (X.b - Z.b) != X.b) = false := by simp; omega
                      have q5 : decide (X.c < Z.c) = false := by simp; omega
                      have q6 : (Z.e != X.e) = false := by simp [st5]
                      have qZ := fun w => eqX Z w
                      clear st1 st2 st3 st4 st5 hsh s0 s1 s2 s3 s4 s5 s6 s7 s8
                      go_upto_region 37 with (first
                        | ((with_reducible refine ev_ld 27 39 gn 27 #[.int .i16 X.a, .int .i16 X.b, .int .i8 X.c, .int .i8 X.d, .int .i8 X.e] (0, 0) _ ?_ ?_ Try.underlying27 ?_ ?_ ?_); exact rfl; exact HL.out.blk (X := X) (by simp); exact rfl; exact HI5.out)
                        | ((with_reducible refine ev_ld 27 43 g43 27 #[.int .i16 Z.a, .int .i16 Z.b, .int .i8 Z.c, .int .i8 Z.d, .int .i8 Z.e] (0, 0) _ ?_ ?_ Try.underlying27 ?_ ?_ ?_); exact rfl; exact HL.out.blk (X := Z) (by simp); exact rfl; exact HI5.out)
                        | (go_at_call 26; ((with_reducible refine (CS.out _).mono ?_); rintro e w70 ⟨rfl, hb⟩; replace HL := Lib.hid (HL.out.below hb); clear hb)))
                      have s0 := HL.out.c0 (g := g41) (X := Z) (by simp)
                      have s1 := HL.out.c1 (g := g41) (X := Z) (by simp)
                      have s2 := HL.out.c2 (g := g41) (X := Z) (by simp)
                      have s3 := HL.out.c3 (g := g41) (X := Z) (by simp)
                      have s4 := HL.out.c4 (g := g41) (X := Z) (by simp)
                      have t0 := HL.out.c0 (g := g43) (X := Z) (by simp)
                      have t1 := HL.out.c1 (g := g43) (X := Z) (by simp)
                      have t2 := HL.out.c2 (g := g43) (X := Z) (by simp)
                      have t3 := HL.out.c3 (g := g43) (X := Z) (by simp)
                      have t4 := HL.out.c4 (g := g43) (X := Z) (by simp)
                      have u0 := HL.out.c0 (g := gn) (X := X) (by simp)
                      have u1 := HL.out.c1 (g := gn) (X := X) (by simp)
                      have u2 := HL.out.c2 (g := gn) (X := X) (by simp)
                      have u3 := HL.out.c3 (g := gn) (X := X) (by simp)
                      have u4 := HL.out.c4 (g := gn) (X := X) (by simp)
                      go_upto_region 39 with (fail)
                      clear q1 q2 q3 q4 q5 q6 qZ s0 s1 s2 s3 s4 u0 u1 u2 u3 u4
                      have q8 : Z.c = 0 → (ns.o.length : Int) ≤ (k + 1 : Nat) ∧ nb.c.d ≤ Z.d ∧ Z.a * Z.b ≤ nl.c.a * nl.c.b := by rw [← HZE.out]; exact dirt_some HGD.out (by omega) (fun j hj => HZ.out j (by omega))
                      cases q7 : (Z.c == 0)
                      · as_aux_lemma =>
                        clear q8
                        go_upto_region 41 with (fail)
                        clear q7
                        clear t0 t1 t2 t3 t4
                        go_wp2_with (first
                          | ((with_reducible refine ev_ld 27 43 g43 27 #[.int .i16 Z.a, .int .i16 Z.b, .int .i8 Z.c, .int .i8 Z.d, .int .i8 Z.e] (0, 0) _ ?_ ?_ Try.underlying27 ?_ ?_ ?_); exact rfl; exact HL.out.blk (X := Z) (by simp); exact rfl; exact HI5.out)
                          | ((with_reducible refine ev_st 27 39 435 gn #[.int .i16 Z.a, .int .i16 Z.b, .int .i8 Z.c, .int .i8 Z.d, .int .i8 Z.e] 27 _ ?_ ?_ (HL.out.blk (X := X) (by simp)) ?_ ?_ ?_ ?_); exact rfl; exact rfl; exact HI5.out; exact Eq.refl (5 : Nat); exact oneCl _; intro wS hblk ht; replace HL := Lib.hid (((HL.out.sub (K' := [(g22, nb.c), (g19, nb.c), (g12, Y), (g10, Y), (gc, x)]) (fun p hp => List.mem_cons_of_mem _ (List.mem_cons_of_mem _ (List.mem_cons_of_mem _ hp)))).tou ht HWN.out HFG.out.1 HFG.out.2.1 HFG.out.2.2).addK Z hblk); clear hblk ht))
                        go_roundw
                        case rel => exact ⟨k + 1, by omega, by go_num, HZE.out ▸ HL⟩
                        case measure => simp [intOf]; omega
                      · as_aux_lemma =>
                        obtain ⟨h1, h2, h3⟩ := q8 (beq_iff_eq.1 q7)
                        have r1 : decide ((k : Int) + 1 < (ns.o.length : Int)) = false := by simp; omega
                        have r2 : decide (Z.d < nb.c.d) = false := by simp; omega
                        have r3 : decide (nl.c.a * nl.c.b < Z.a * Z.b) = false := by simp; omega
                        have r4 := area_bd hZO
                        clear q8 h1 h2 h3
                        have u0 := HL.out.c0 (g := g22) (X := nb.c) (by simp)
                        have u1 := HL.out.c1 (g := g22) (X := nb.c) (by simp)
                        have u2 := HL.out.c2 (g := g22) (X := nb.c) (by simp)
                        have u3 := HL.out.c3 (g := g22) (X := nb.c) (by simp)
                        have u4 := HL.out.c4 (g := g22) (X := nb.c) (by simp)
                        go_upto_region 41 with (fail)
                        clear q7 r1 r2 r3 r4 u0 u1 u2 u3 u4
                        clear t0 t1 t2 t3 t4
                        go_wp2_with (first
                          | ((with_reducible refine ev_ld 27 43 g43 27 #[.int .i16 Z.a, .int .i16 Z.b, .int .i8 Z.c, .int .i8 Z.d, .int .i8 Z.e] (0, 0) _ ?_ ?_ Try.underlying27 ?_ ?_ ?_); exact rfl; exact HL.out.blk (X := Z) (by simp); exact rfl; exact HI5.out)
                          | ((with_reducible refine ev_st 27 39 435 gn #[.int .i16 Z.a, .int .i16 Z.b, .int .i8 Z.c, .int .i8 Z.d, .int .i8 Z.e] 27 _ ?_ ?_ (HL.out.blk (X := X) (by simp)) ?_ ?_ ?_ ?_); exact rfl; exact rfl; exact HI5.out; exact Eq.refl (5 : Nat); exact oneCl _; intro wS hblk ht; replace HL := Lib.hid (((HL.out.sub (K' := [(g22, nb.c), (g19, nb.c), (g12, Y), (g10, Y), (gc, x)]) (fun p hp => List.mem_cons_of_mem _ (List.mem_cons_of_mem _ (List.mem_cons_of_mem _ hp)))).tou ht HWN.out HFG.out.1 HFG.out.2.1 HFG.out.2.2).addK Z hblk); clear hblk ht))
                        go_roundw
                        case rel => exact ⟨k + 1, by omega, by go_num, HZE.out ▸ HL⟩
                        case measure => simp [intOf]; omega
                · as_aux_lemma =>
                  obtain rfl : k = zs.length := by omega
                  rw [HYE.out] at HL
                  have d2 : decide ((zs.length : Int) < (zs.length : Int)) = false := by simp
                  have s0 := HL.out.c0 (g := gn) (X := Y) (by simp)
                  have s1 := HL.out.c1 (g := gn) (X := Y) (by simp)
                  have s2 := HL.out.c2 (g := gn) (X := Y) (by simp)
                  have s3 := HL.out.c3 (g := gn) (X := Y) (by simp)
                  have s4 := HL.out.c4 (g := gn) (X := Y) (by simp)
                  have t0 := HL.out.c0 (g := g12) (X := Y) (by simp)
                  have t1 := HL.out.c1 (g := g12) (X := Y) (by simp)
                  have t2 := HL.out.c2 (g := g12) (X := Y) (by simp)
                  have t3 := HL.out.c3 (g := g12) (X := Y) (by simp)
                  have t4 := HL.out.c4 (g := g12) (X := Y) (by simp)
                  have qY := fun w => eqX Y w
                  go_upto_region 44 with (fail)
                  clear qY d1 d2 s0 s1 s2 s3 s4 t0 t1 t2 t3 t4
                  have s0 := HL.out.c0 (g := gc) (X := x) (by simp)
                  have s1 := HL.out.c1 (g := gc) (X := x) (by simp)
                  have s2 := HL.out.c2 (g := gc) (X := x) (by simp)
                  have s3 := HL.out.c3 (g := gc) (X := x) (by simp)
                  have s4 := HL.out.c4 (g := gc) (X := x) (by simp)
                  have q8 : x.c = 0 → (ns.o.length : Int) = 0 := fun h => by have h1 := (dirt_some (zs := zs) (m := 0) HGD.out (by omega) (fun j hj => by omega) h).1; omega
                  have q9 : x.c = 0 → ((ns.o.length : Int) != 0) = false := fun h => by rw [q8 h]; rfl
                  clear q8
                  cases q7 : (x.c == 0)
                  · as_aux_lemma =>
                    clear q9
                    go_upto_region 46 with (fail)
                    clear q7 s0 s1 s2 s3 s4
                    go_upto_region 48 with (fail)
                    have CW := Lib.hid (fun w hP hr => (washAll_node HMO.out HGD.out.s.1) ▸ c_iWashAll x.a x.b x.c x.d x.e L.length cp (pF L) (qF L) (rF L) A16 ns.o.length c16 ns.o w (some ⟨gp, 0, none⟩) HXA.out HXB.out hP HN.out HGI.out hr rfl ln1)
                    go_upto_region 49 with (first
                      | ((with_reducible refine ev_ld 27 5 gc 27 #[.int .i16 x.a, .int .i16 x.b, .int .i8 x.c, .int .i8 x.d, .int .i8 x.e] (0, 0) _ ?_ ?_ Try.underlying27 ?_ ?_ ?_); exact rfl; exact HL.out.blk (X := x) (by simp); exact rfl; exact HI5.out)
                      | (go_at_call 8; ((with_reducible refine (CW.out _ HL.out.progs (own_rd (HL.out.row (v := .slice A16 ns.o.length c16) (zs := ns.o) (by simp)))).mono ?_); rintro e w70 ⟨rfl, hb⟩; replace HL := Lib.hid (HL.out.below hb); clear hb))
                      | ((with_reducible refine ev_st 27 48 461 (w70.heap.size) #[.int .i16 ns.c.a, .int .i16 ns.c.b, .int .i8 ns.c.c, .int .i8 ns.c.d, .int .i8 ns.c.e] 27 _ ?_ ?_ (heap_alloc_new w70 _) ?_ ?_ ?_ ?_); exact rfl; exact rfl; exact HI5.out; exact Eq.refl (5 : Nat); exact oneCl _; intro wS hblk ht; have hb := tou_newM ht; clear ht; replace HL := Lib.hid (HL.out.below hb); replace HL := Lib.hid (HL.out.addK ns.c hblk); clear hblk hb))
                    generalize w70.heap.size = g48 at *
                    clear CW
                    have CW := Lib.hid (fun w hP hr => (washAll_node HMO.out HGD.out.b.1) ▸ c_iWashAll x.a x.b x.c x.d x.e L.length cp (pF L) (qF L) (rF L) A21 nb.o.length c21 nb.o w (some ⟨gp, 0, none⟩) HXA.out HXB.out hP HN.out HGI.out hr rfl ln2)
                    go_upto_region 50 with (first
                      | ((with_reducible refine ev_ld 27 5 gc 27 #[.int .i16 x.a, .int .i16 x.b, .int .i8 x.c, .int .i8 x.d, .int .i8 x.e] (0, 0) _ ?_ ?_ Try.underlying27 ?_ ?_ ?_); exact rfl; exact HL.out.blk (X := x) (by simp); exact rfl; exact HI5.out)
                      | (go_at_call 8; ((with_reducible refine (CW.out _ HL.out.progs (own_rd (HL.out.row (v := .slice A21 nb.o.length c21) (zs := nb.o) (by simp)))).mono ?_); rintro e w71 ⟨rfl, hb⟩; replace HL := Lib.hid (HL.out.below hb); clear hb))
                      | ((with_reducible refine ev_st 27 50 468 (w71.heap.size) #[.int .i16 nb.c.a, .int .i16 nb.c.b, .int .i8 nb.c.c, .int .i8 nb.c.d, .int .i8 nb.c.e] 27 _ ?_ ?_ (heap_alloc_new w71 _) ?_ ?_ ?_ ?_); exact rfl; exact rfl; exact HI5.out; exact Eq.refl (5 : Nat); exact oneCl _; intro wS hblk ht; have hb := tou_newM ht; clear ht; replace HL := Lib.hid (HL.out.below hb); replace HL := Lib.hid (HL.out.addK nb.c hblk); clear hblk hb))
                    generalize w71.heap.size = g50 at *
                    clear CW
                    have CW := Lib.hid (fun w hP hr => (washAll_node HMO.out HGD.out.l.1) ▸ c_iWashAll x.a x.b x.c x.d x.e L.length cp (pF L) (qF L) (rF L) A27 nl.o.length c27 nl.o w (some ⟨gp, 0, none⟩) HXA.out HXB.out hP HN.out HGI.out hr rfl ln3)
                    go_upto_region 51 with (first
                      | ((with_reducible refine ev_ld 27 5 gc 27 #[.int .i16 x.a, .int .i16 x.b, .int .i8 x.c, .int .i8 x.d, .int .i8 x.e] (0, 0) _ ?_ ?_ Try.underlying27 ?_ ?_ ?_); exact rfl; exact HL.out.blk (X := x) (by simp); exact rfl; exact HI5.out)
                      | (go_at_call 8; ((with_reducible refine (CW.out _ HL.out.progs (own_rd (HL.out.row (v := .slice A27 nl.o.length c27) (zs := nl.o) (by simp)))).mono ?_); rintro e w72 ⟨rfl, hb⟩; replace HL := Lib.hid (HL.out.below hb); clear hb))
                      | ((with_reducible refine ev_st 27 52 475 (w72.heap.size) #[.int .i16 nl.c.a, .int .i16 nl.c.b, .int .i8 nl.c.c, .int .i8 nl.c.d, .int .i8 nl.c.e] 27 _ ?_ ?_ (heap_alloc_new w72 _) ?_ ?_ ?_ ?_); exact rfl; exact rfl; exact HI5.out; exact Eq.refl (5 : Nat); exact oneCl _; intro wS hblk ht; have hb := tou_newM ht; clear ht; replace HL := Lib.hid (HL.out.below hb); replace HL := Lib.hid (HL.out.addK nl.c hblk); clear hblk hb))
                    generalize w72.heap.size = g52 at *
                    clear CW
                    obtain ⟨h1, h2, h3, h4, h5⟩ := good_end HGD.out
                    have hno := node_ok OK.out HPR.out HGD.out.l.1
                    have r4 := area_bd hno
                    have r5 : decide (1 ≤ nl.c.a * nl.c.b) = true := by simp; omega
                    have r6 : decide (nb.c.d ≤ ns.c.d) = true := by simp; omega
                    have r7 : decide (nb.c.d ≤ nl.c.d) = true := by simp; omega
                    have r1 : (ns.c.c == 0) = true := by simp [h1]
                    have r2 : (nb.c.c == 0) = true := by simp [h2]
                    have r3 : (nl.c.c == 0) = true := by simp [h3]
                    have r8 : (nl.c.a * nl.c.b == nl.c.a * nl.c.b) = true := by simp
                    have qB := fun w => eqX nb.c w
                    have na := hno.a
                    have nb' := hno.b
                    clear h1 h2 h3 h4 h5
                    have s0 := HL.out.c0 (g := g48) (X := ns.c) (by simp)
                    have s1 := HL.out.c1 (g := g48) (X := ns.c) (by simp)
                    have s2 := HL.out.c2 (g := g48) (X := ns.c) (by simp)
                    have s3 := HL.out.c3 (g := g48) (X := ns.c) (by simp)
                    have s4 := HL.out.c4 (g := g48) (X := ns.c) (by simp)
                    have t0 := HL.out.c0 (g := g50) (X := nb.c) (by simp)
                    have t1 := HL.out.c1 (g := g50) (X := nb.c) (by simp)
                    have t2 := HL.out.c2 (g := g50) (X := nb.c) (by simp)
                    have t3 := HL.out.c3 (g := g50) (X := nb.c) (by simp)
                    have t4 := HL.out.c4 (g := g50) (X := nb.c) (by simp)
                    have u0 := HL.out.c0 (g := g52) (X := nl.c) (by simp)
                    have u1 := HL.out.c1 (g := g52) (X := nl.c) (by simp)
                    have u2 := HL.out.c2 (g := g52) (X := nl.c) (by simp)
                    have u3 := HL.out.c3 (g := g52) (X := nl.c) (by simp)
                    have u4 := HL.out.c4 (g := g52) (X := nl.c) (by simp)
                    have v0 := HL.out.c0 (g := g22) (X := nb.c) (by simp)
                    have v1 := HL.out.c1 (g := g22) (X := nb.c) (by simp)
                    have v2 := HL.out.c2 (g := g22) (X := nb.c) (by simp)
                    have v3 := HL.out.c3 (g := g22) (X := nb.c) (by simp)
                    have v4 := HL.out.c4 (g := g22) (X := nb.c) (by simp)
                    go_wp2
                    go_ret
                    exact ⟨rfl, HL.out.b⟩
                  · as_aux_lemma =>
                    have q8 := q9 (beq_iff_eq.1 q7)
                    clear q9
                    go_upto_region 46 with (fail)
                    clear q7 q8 s0 s1 s2 s3 s4
                    go_upto_region 48 with (fail)
                    have CW := Lib.hid (fun w hP hr => (washAll_node HMO.out HGD.out.s.1) ▸ c_iWashAll x.a x.b x.c x.d x.e L.length cp (pF L) (qF L) (rF L) A16 ns.o.length c16 ns.o w (some ⟨gp, 0, none⟩) HXA.out HXB.out hP HN.out HGI.out hr rfl ln1)
                    go_upto_region 49 with (first
                      | ((with_reducible refine ev_ld 27 5 gc 27 #[.int .i16 x.a, .int .i16 x.b, .int .i8 x.c, .int .i8 x.d, .int .i8 x.e] (0, 0) _ ?_ ?_ Try.underlying27 ?_ ?_ ?_); exact rfl; exact HL.out.blk (X := x) (by simp); exact rfl; exact HI5.out)
                      | (go_at_call 8; ((with_reducible refine (CW.out _ HL.out.progs (own_rd (HL.out.row (v := .slice A16 ns.o.length c16) (zs := ns.o) (by simp)))).mono ?_); rintro e w70 ⟨rfl, hb⟩; replace HL := Lib.hid (HL.out.below hb); clear hb))
                      | ((with_reducible refine ev_st 27 48 461 (w70.heap.size) #[.int .i16 ns.c.a, .int .i16 ns.c.b, .int .i8 ns.c.c, .int .i8 ns.c.d, .int .i8 ns.c.e] 27 _ ?_ ?_ (heap_alloc_new w70 _) ?_ ?_ ?_ ?_); exact rfl; exact rfl; exact HI5.out; exact Eq.refl (5 : Nat); exact oneCl _; intro wS hblk ht; have hb := tou_newM ht; clear ht; replace HL := Lib.hid (HL.out.below hb); replace HL := Lib.hid (HL.out.addK ns.c hblk); clear hblk hb))
                    generalize w70.heap.size = g48 at *
                    clear CW
                    have CW := Lib.hid (fun w hP hr => (washAll_node HMO.out HGD.out.b.1) ▸ c_iWashAll x.a x.b x.c x.d x.e L.length cp (pF L) (qF L) (rF L) A21 nb.o.length c21 nb.o w (some ⟨gp, 0, none⟩) HXA.out HXB.out hP HN.out HGI.out hr rfl ln2)
                    go_upto_region 50 with (first
                      | ((with_reducible refine ev_ld 27 5 gc 27 #[.int .i16 x.a, .int .i16 x.b, .int .i8 x.c, .int .i8 x.d, .int .i8 x.e] (0, 0) _ ?_ ?_ Try.underlying27 ?_ ?_ ?_); exact rfl; exact HL.out.blk (X := x) (by simp); exact rfl; exact HI5.out)
                      | (go_at_call 8; ((with_reducible refine (CW.out _ HL.out.progs (own_rd (HL.out.row (v := .slice A21 nb.o.length c21) (zs := nb.o) (by simp)))).mono ?_); rintro e w71 ⟨rfl, hb⟩; replace HL := Lib.hid (HL.out.below hb); clear hb))
                      | ((with_reducible refine ev_st 27 50 468 (w71.heap.size) #[.int .i16 nb.c.a, .int .i16 nb.c.b, .int .i8 nb.c.c, .int .i8 nb.c.d, .int .i8 nb.c.e] 27 _ ?_ ?_ (heap_alloc_new w71 _) ?_ ?_ ?_ ?_); exact rfl; exact rfl; exact HI5.out; exact Eq.refl (5 : Nat); exact oneCl _; intro wS hblk ht; have hb := tou_newM ht; clear ht; replace HL := Lib.hid (HL.out.below hb); replace HL := Lib.hid (HL.out.addK nb.c hblk); clear hblk hb))
                    generalize w71.heap.size = g50 at *
                    clear CW
                    have CW := Lib.hid (fun w hP hr => (washAll_node HMO.out HGD.out.l.1) ▸ c_iWashAll x.a x.b x.c x.d x.e L.length cp (pF L) (qF L) (rF L) A27 nl.o.length c27 nl.o w (some ⟨gp, 0, none⟩) HXA.out HXB.out hP HN.out HGI.out hr rfl ln3)
                    go_upto_region 51 with (first
                      | ((with_reducible refine ev_ld 27 5 gc 27 #[.int .i16 x.a, .int .i16 x.b, .int .i8 x.c, .int .i8 x.d, .int .i8 x.e] (0, 0) _ ?_ ?_ Try.underlying27 ?_ ?_ ?_); exact rfl; exact HL.out.blk (X := x) (by simp); exact rfl; exact HI5.out)
                      | (go_at_call 8; ((with_reducible refine (CW.out _ HL.out.progs (own_rd (HL.out.row (v := .slice A27 nl.o.length c27) (zs := nl.o) (by simp)))).mono ?_); rintro e w72 ⟨rfl, hb⟩; replace HL := Lib.hid (HL.out.below hb); clear hb))
                      | ((with_reducible refine ev_st 27 52 475 (w72.heap.size) #[.int .i16 nl.c.a, .int .i16 nl.c.b, .int .i8 nl.c.c, .int .i8 nl.c.d, .int .i8 nl.c.e] 27 _ ?_ ?_ (heap_alloc_new w72 _) ?_ ?_ ?_ ?_); exact rfl; exact rfl; exact HI5.out; exact Eq.refl (5 : Nat); exact oneCl _; intro wS hblk ht; have hb := tou_newM ht; clear ht; replace HL := Lib.hid (HL.out.below hb); replace HL := Lib.hid (HL.out.addK nl.c hblk); clear hblk hb))
                    generalize w72.heap.size = g52 at *
                    clear CW
                    obtain ⟨h1, h2, h3, h4, h5⟩ := good_end HGD.out
                    have hno := node_ok OK.out HPR.out HGD.out.l.1
                    have r4 := area_bd hno
                    have r5 : decide (1 ≤ nl.c.a * nl.c.b) = true := by simp; omega
                    have r6 : decide (nb.c.d ≤ ns.c.d) = true := by simp; omega
                    have r7 : decide (nb.c.d ≤ nl.c.d) = true := by simp; omega
                    have r1 : (ns.c.c == 0) = true := by simp [h1]
                    have r2 : (nb.c.c == 0) = true := by simp [h2]
                    have r3 : (nl.c.c == 0) = true := by simp [h3]
                    have r8 : (nl.c.a * nl.c.b == nl.c.a * nl.c.b) = true := by simp
                    have qB := fun w => eqX nb.c w
                    have na := hno.a
                    have nb' := hno.b
                    clear h1 h2 h3 h4 h5
                    have s0 := HL.out.c0 (g := g48) (X := ns.c) (by simp)
                    have s1 := HL.out.c1 (g := g48) (X := ns.c) (by simp)
                    have s2 := HL.out.c2 (g := g48) (X := ns.c) (by simp)
                    have s3 := HL.out.c3 (g := g48) (X := ns.c) (by simp)
                    have s4 := HL.out.c4 (g := g48) (X := ns.c) (by simp)
                    have t0 := HL.out.c0 (g := g50) (X := nb.c) (by simp)
                    have t1 := HL.out.c1 (g := g50) (X := nb.c) (by simp)
                    have t2 := HL.out.c2 (g := g50) (X := nb.c) (by simp)
                    have t3 := HL.out.c3 (g := g50) (X := nb.c) (by simp)
                    have t4 := HL.out.c4 (g := g50) (X := nb.c) (by simp)
                    have u0 := HL.out.c0 (g := g52) (X := nl.c) (by simp)
                    have u1 := HL.out.c1 (g := g52) (X := nl.c) (by simp)
                    have u2 := HL.out.c2 (g := g52) (X := nl.c) (by simp)
                    have u3 := HL.out.c3 (g := g52) (X := nl.c) (by simp)
                    have u4 := HL.out.c4 (g := g52) (X := nl.c) (by simp)
                    have v0 := HL.out.c0 (g := g22) (X := nb.c) (by simp)
                    have v1 := HL.out.c1 (g := g22) (X := nb.c) (by simp)
                    have v2 := HL.out.c2 (g := g22) (X := nb.c) (by simp)
                    have v3 := HL.out.c3 (g := g22) (X := nb.c) (by simp)
                    have v4 := HL.out.c4 (g := g22) (X := nb.c) (by simp)
                    go_wp2
                    go_ret
                    exact ⟨rfl, HL.out.b⟩
  · rw [hL] at CLong
    go_enter Try.func3, Try.ntmps3
    go_wp2_with (go_at_call 4; ((refine (CLong.out _).mono ?_); rintro e w1 ⟨rfl, rfl⟩))
    go_ret
    exact ⟨rfl, Below.refl _ _⟩
end Go.Proofs.Ytdmcemhckalhkaa
