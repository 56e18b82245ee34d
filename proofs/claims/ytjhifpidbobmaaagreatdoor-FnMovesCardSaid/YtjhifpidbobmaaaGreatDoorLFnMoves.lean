/- The law on moves (printed by mkmov.py). -/
import Derived.Test.YtjhifpidbobmaaaGreatDoorMg34
import Derived.Test.YtjhifpidbobmaaaGreatDoorMg35
import Derived.Test.YtjhifpidbobmaaaGreatDoorMg36
import Derived.Test.YtjhifpidbobmaaaGreatDoorMg14
import Derived.Test.YtjhifpidbobmaaaGreatDoorMg12
import Derived.Test.YtjhifpidbobmaaaGreatDoorMg37
import Derived.Test.YtjhifpidbobmaaaGreatDoorMg38
import Derived.BigRegion
import Derived.StillTailTactics
import Derived.Deep.DeepCutAuto
import Derived.Deep.RegionHeld3
namespace Go.Proofs.YtjhifpidbobmaaaGreatDoor
open Go.RowKit
set_option linter.unusedVariables false
set_option linter.unusedSimpArgs false
set_option maxRecDepth 100000

set_option maxHeartbeats 20000000 in
theorem walk_FnMoves (W : World) (A0 : Option Addr) (cap0 : Nat) (a0 : List Int) (w0 : ∀ z ∈ a0, (Lit.int .u8 z).wf = true) (r0 : RdRow W A0 (nums .u8 a0)) (s0 : a0.length * 1 ≤ 140737488351232) (m0 : a0.length ≤ maxLen) (A1 : Option Addr) (cap1 : Nat) (a1 : List Int) (w1 : ∀ z ∈ a1, (Lit.int .u8 z).wf = true) (r1 : RdRow W A1 (nums .u8 a1)) (s1 : a1.length * 1 ≤ 140737488351232) (m1 : a1.length ≤ maxLen) (hL : Laid W) :
    Calls Tryz.prog 3 #[.slice A0 a0.length cap0, .slice A1 a1.length cap1] W fun e w' => e = .returned (.bool true) ∧ Below W.heap.size W w' := by
  by_cases h0 : a0.length ≤ 4096
  · have d0 : decide ((4096 : Int) < (a0.length : Int)) = false := by simp; omega
    have CB0 := Lib.hid (fun w => d0 ▸ c_f6big A0 a0.length cap0 w)
    by_cases h1 : a1.length ≤ 4096
    · have d1 : decide ((4096 : Int) < (a1.length : Int)) = false := by simp; omega
      have CB1 := Lib.hid (fun w => d1 ▸ c_f6big A1 a1.length cap1 w)
      have hB0 : BytesAt W A0 a0 := ⟨r0, bytes_bd w0, by omega⟩
      have hB1 : BytesAt W A1 a1 := ⟨r1, bytes_bd w1, by omega⟩
      have CP := Lib.hid (c_P6Moves A0 cap0 a0 W hB0 hB0.lt)
      have CK0 := Lib.hid (fun (n : Int) (hn : 1 ≤ n ∧ n ≤ 200) w (hb : Below W.heap.size W w) => c_P6Pick A0 cap0 a0 n w (hB0.below hb) (hB0.below hb).lt hn)
      have CK1 := Lib.hid (fun (n : Int) (hn : 1 ≤ n ∧ n ≤ 200) w (hb : Below W.heap.size W w) => c_P6Pick A1 cap1 a1 n w (hB1.below hb) (hB1.below hb).lt hn)
      have HLD := Lib.hid hL
      clear hB0 hB1 w0 r0 s0 m0 w1 r1 s1 m1 hL d0 d1
      go_enter Tryz.func3, Tryz.ntmps3
      go_upto_region 4 with (first
        | (go_at_call 4; ((with_reducible refine (CB0.out _).mono ?_); rintro e w1 ⟨rfl, rfl⟩))
        | (go_at_call 4; ((with_reducible refine (CB1.out _).mono ?_); rintro e w1 ⟨rfl, rfl⟩))
        | (go_at_call 5; ((refine CP.out.mono ?_); rintro e w2 ⟨L, v, rfl, hl, hMD, hO, hb⟩; have HMD := Lib.hid hMD; have HO := Lib.hid hO; have HB := Lib.hid hb; clear hMD hO hb)))
      obtain ⟨A5, c5, rfl, hA5⟩ := own_form HO.out
      have HA5 := Lib.hid hA5
      obtain ⟨D, E, N, M, hF⟩ := mvF_of hl HMD.out
      have HF := Lib.hid hF
      have HL : Hid (ML W [] [⟨46, 3, .slice A5 L.length c5, L.length, mvRow L⟩] w2) := ⟨HB.out, fun p hp => by simp at hp, fun x hx => by simp at hx; subst hx; exact HO.out⟩
      clear CP HO HB HMD hA5 CB0 CB1
      have hn : L.length ≤ 1048576 := by omega
      have hg : ∀ j, j < L.length → (-32768 ≤ fG L j ∧ fG L j ≤ 32767) ∧ (-128 ≤ fS L j ∧ fS L j ≤ 127) ∧ (-128 ≤ fT L j ∧ fT L j ≤ 127) := fun j hj => by have := okMove_all (hF.ok j hj); omega
      have hdb : ∀ j, -2147483648 ≤ gi D j ∧ gi D j ≤ 2147483647 := fun j => by have := hF.db j; omega
      have HN := Lib.hid hn
      have HG := Lib.hid hg
      have CMT := Lib.hid (fun w (h : MovesAt w A5 L.length (fS L) (fT L) (fG L)) ht => hF.text ▸ c_iMovesText A5 L.length c5 (fS L) (fT L) (fG L) w h hn hg ht)
      have CRM : Hid (∀ w, Laid w → Calls Tryz.prog 6 #[.string (str (txtX L))] w fun e w' => ∃ v, e = .returned (.tuple #[v, .int .i64 0]) ∧ w'.ownsRow w.heap.size 46 3 v L.length (mvRow L) ∧ Below w.heap.size w w') := fun w h => by
        have := c_iReadMoves (txtX L) hF.txl w h
        unfold MvEnd at this
        rw [hF.rd, hF.rk] at this
        exact this
      have CLI := Lib.hid (fun w (h : MovesAt w A5 L.length (fS L) (fT L) (fG L)) => hF.least ▸ c_iLeastStart A5 L.length c5 (fS L) (fT L) (fG L) w h hn hg)
      have CLS := Lib.hid (fun w (h : MovesAt w A5 L.length (fS L) (fT L) (fG L)) => hF.least ▸ c_sLeastStart A5 L.length c5 (fS L) (fT L) (fG L) w h hn hg)
      have CMI := Lib.hid (fun w (h : MovesAt w A5 L.length (fS L) (fT L) (fG L)) => hF.make ▸ hF.plc ▸ c_iMakeMoves D A5 L.length c5 (fS L) (fT L) (fG L) w hF.dl hdb h hn hg)
      have CMS := Lib.hid (fun w (h : MovesAt w A5 L.length (fS L) (fT L) (fG L)) => hF.make ▸ hF.plc ▸ c_sMakeMoves D A5 L.length c5 (fS L) (fT L) (fG L) w hF.dl hdb h hn hg)
      have CPI := Lib.hid (fun w (h : MovesAt w A5 L.length (fS L) (fT L) (fG L)) => hF.plc ▸ c_iPlacesAt D A5 L.length c5 (fS L) (fT L) (fG L) w hF.dl hdb h hn hg)
      have CPS := Lib.hid (fun w (h : MovesAt w A5 L.length (fS L) (fT L) (fG L)) => hF.plc ▸ c_sPlacesAt D A5 L.length c5 (fS L) (fT L) (fG L) w hF.dl hdb h hn hg)
      have CNI := Lib.hid (fun w (h : MovesAt w A5 L.length (fS L) (fT L) (fG L)) => hF.net ▸ c_iNetMoves A5 L.length c5 (fS L) (fT L) (fG L) w h hn hg)
      have CNS := Lib.hid (fun w (h : MovesAt w A5 L.length (fS L) (fT L) (fG L)) => hF.net ▸ c_sNetMoves A5 L.length c5 (fS L) (fT L) (fG L) w h hn hg)
      have CFW := Lib.hid (fun w (h : MovesAt w A5 L.length (fS L) (fT L) (fG L)) => hF.first ▸ c_iFirstWrong D A5 L.length c5 (fS L) (fT L) (fG L) w hF.dl hdb h hn hg)
      have CVM := Lib.hid (fun w (h : MovesAt w A5 L.length (fS L) (fT L) (fG L)) => hF.vld ▸ c_iValidMoves A5 L.length c5 (fS L) (fT L) (fG L) w h hn hg)
      clear hF hn hg hdb
      go_upto_region 5 with (first
        | (go_at_call 7; ((with_reducible refine (CMT.out _ (HL.out.mov (A := A5) (c := c5) (by simp only [List.mem_cons, true_or, or_true])) (HLD.out.below HL.out.b).tab).mono ?_); rintro e w3 ⟨rfl, hb⟩; replace HL := Lib.hid (HL.out.below hb); clear hb))
        | (go_at_call 6; ((with_reducible refine (CRM.out _ (HLD.out.below HL.out.b)).mono ?_); rintro e w4 ⟨v6, rfl, hO, hb⟩; replace hO := own_mono hO HL.out.b.size; replace HL := Lib.hid ((HL.out.below hb).addR ⟨46, 3, v6, L.length, mvRow L⟩ hO); clear hO hb)))
      go_upto_region 6 with (first
        | (go_at_call 8; ((with_reducible refine (CLI.out _ (HL.out.mov (A := A5) (c := c5) (by simp only [List.mem_cons, true_or, or_true]))).mono ?_); rintro e w5 ⟨rfl, hb⟩; replace HL := Lib.hid (HL.out.below hb); clear hb))
        | ((with_reducible refine ev_st 30 8 71 (w5.heap.size) (nums .i32 D).toArray 30 _ ?_ ?_ (heap_alloc_new w5 _) ?_ ?_ ?_ ?_); exact rfl; exact rfl; exact places_info HF.out.dl; exact sz5 HF.out.dl _ _ _ _ _; exact nums_one _ _; intro wS hblk ht; have hb := tou_newL ht; clear ht; replace HL := Lib.hid (HL.out.below hb); replace HL := Lib.hid (HL.out.addK D hblk); clear hblk hb))
      generalize w5.heap.size = g8 at *
      go_upto_region 7 with (first
        | (go_at_call 9; ((with_reducible refine (CLS.out _ (HL.out.mov (A := A5) (c := c5) (by simp only [List.mem_cons, true_or, or_true]))).mono ?_); rintro e w6 ⟨rfl, hb⟩; replace HL := Lib.hid (HL.out.below hb); clear hb))
        | ((with_reducible refine ev_st 30 10 76 (w6.heap.size) (nums .i32 D).toArray 30 _ ?_ ?_ (heap_alloc_new w6 _) ?_ ?_ ?_ ?_); exact rfl; exact rfl; exact places_info HF.out.dl; exact sz5 HF.out.dl _ _ _ _ _; exact nums_one _ _; intro wS hblk ht; have hb := tou_newL ht; clear ht; replace HL := Lib.hid (HL.out.below hb); replace HL := Lib.hid (HL.out.addK D hblk); clear hblk hb))
      generalize w6.heap.size = g10 at *
      clear CMT CRM CLI CLS
      go_upto_region 8 with (first
        | ((with_reducible refine ev_ld 30 10 g10 30 (nums .i32 D).toArray (0, 0) _ ?_ ?_ Tryz.underlying30 ?_ ?_ ?_); exact rfl; exact HL.out.blk (P := D) (by simp only [List.mem_cons, true_or, or_true]); exact rfl; exact places_info HF.out.dl)
        | (go_at_call 10; ((with_reducible refine (CMI.out _ (HL.out.mov (A := A5) (c := c5) (by simp only [List.mem_cons, true_or, or_true]))).mono ?_); rintro e w7 ⟨rfl, hb⟩; replace HL := Lib.hid (HL.out.below hb); clear hb))
        | ((with_reducible refine ev_st 30 12 82 (w7.heap.size) (nums .i32 E).toArray 30 _ ?_ ?_ (heap_alloc_new w7 _) ?_ ?_ ?_ ?_); exact rfl; exact rfl; exact places_info HF.out.el; exact sz5 HF.out.el _ _ _ _ _; exact nums_one _ _; intro wS hblk ht; have hb := tou_newL ht; clear ht; replace HL := Lib.hid (HL.out.below hb); replace HL := Lib.hid (HL.out.addK E hblk); clear hblk hb))
      generalize w7.heap.size = g12 at *
      go_upto_region 9 with (first
        | ((with_reducible refine ev_ld 30 10 g10 30 (nums .i32 D).toArray (0, 0) _ ?_ ?_ Tryz.underlying30 ?_ ?_ ?_); exact rfl; exact HL.out.blk (P := D) (by simp only [List.mem_cons, true_or, or_true]); exact rfl; exact places_info HF.out.dl)
        | (go_at_call 11; ((with_reducible refine (CMS.out _ (HL.out.mov (A := A5) (c := c5) (by simp only [List.mem_cons, true_or, or_true]))).mono ?_); rintro e w8 ⟨rfl, hb⟩; replace HL := Lib.hid (HL.out.below hb); clear hb))
        | ((with_reducible refine ev_st 30 14 88 (w8.heap.size) (nums .i32 E).toArray 30 _ ?_ ?_ (heap_alloc_new w8 _) ?_ ?_ ?_ ?_); exact rfl; exact rfl; exact places_info HF.out.el; exact sz5 HF.out.el _ _ _ _ _; exact nums_one _ _; intro wS hblk ht; have hb := tou_newL ht; clear ht; replace HL := Lib.hid (HL.out.below hb); replace HL := Lib.hid (HL.out.addK E hblk); clear hblk hb))
      generalize w8.heap.size = g14 at *
      clear CMI CMS
      go_upto_region 10 with (first
        | ((with_reducible refine ev_ld 30 10 g10 30 (nums .i32 D).toArray (0, 0) _ ?_ ?_ Tryz.underlying30 ?_ ?_ ?_); exact rfl; exact HL.out.blk (P := D) (by simp only [List.mem_cons, true_or, or_true]); exact rfl; exact places_info HF.out.dl)
        | (go_at_call 12; ((with_reducible refine (CPI.out _ (HL.out.mov (A := A5) (c := c5) (by simp only [List.mem_cons, true_or, or_true]))).mono ?_); rintro e w9 ⟨v16, rfl, hO, hb⟩; replace hO := own_mono hO HL.out.b.size; replace HL := Lib.hid ((HL.out.below hb).addR ⟨30, 5, v16, L.length, rows5 (atN D (fS L) (fT L) (fG L)) L.length⟩ hO); clear hO hb)))
      go_upto_region 11 with (first
        | ((with_reducible refine ev_ld 30 10 g10 30 (nums .i32 D).toArray (0, 0) _ ?_ ?_ Tryz.underlying30 ?_ ?_ ?_); exact rfl; exact HL.out.blk (P := D) (by simp only [List.mem_cons, true_or, or_true]); exact rfl; exact places_info HF.out.dl)
        | (go_at_call 13; ((with_reducible refine (CPS.out _ (HL.out.mov (A := A5) (c := c5) (by simp only [List.mem_cons, true_or, or_true]))).mono ?_); rintro e w10 ⟨v18, rfl, hO, hb⟩; replace hO := own_mono hO HL.out.b.size; replace HL := Lib.hid ((HL.out.below hb).addR ⟨30, 5, v18, L.length, rows5 (atN D (fS L) (fT L) (fG L)) L.length⟩ hO); clear hO hb)))
      go_upto_region 12 with (first
        | (go_at_call 14; ((with_reducible refine (CNI.out _ (HL.out.mov (A := A5) (c := c5) (by simp only [List.mem_cons, true_or, or_true]))).mono ?_); rintro e w11 ⟨rfl, hb⟩; replace HL := Lib.hid (HL.out.below hb); clear hb))
        | ((with_reducible refine ev_st 30 20 105 (w11.heap.size) (nums .i32 N).toArray 30 _ ?_ ?_ (heap_alloc_new w11 _) ?_ ?_ ?_ ?_); exact rfl; exact rfl; exact places_info HF.out.nl; exact sz5 HF.out.nl _ _ _ _ _; exact nums_one _ _; intro wS hblk ht; have hb := tou_newL ht; clear ht; replace HL := Lib.hid (HL.out.below hb); replace HL := Lib.hid (HL.out.addK N hblk); clear hblk hb))
      generalize w11.heap.size = g20 at *
      go_upto_region 13 with (first
        | (go_at_call 15; ((with_reducible refine (CNS.out _ (HL.out.mov (A := A5) (c := c5) (by simp only [List.mem_cons, true_or, or_true]))).mono ?_); rintro e w12 ⟨rfl, hb⟩; replace HL := Lib.hid (HL.out.below hb); clear hb))
        | ((with_reducible refine ev_st 30 22 110 (w12.heap.size) (nums .i32 N).toArray 30 _ ?_ ?_ (heap_alloc_new w12 _) ?_ ?_ ?_ ?_); exact rfl; exact rfl; exact places_info HF.out.nl; exact sz5 HF.out.nl _ _ _ _ _; exact nums_one _ _; intro wS hblk ht; have hb := tou_newL ht; clear ht; replace HL := Lib.hid (HL.out.below hb); replace HL := Lib.hid (HL.out.addK N hblk); clear hblk hb))
      generalize w12.heap.size = g22 at *
      clear CPI CPS CNI CNS
      go_upto_region 14 with (first
        | ((with_reducible refine ev_ld 30 10 g10 30 (nums .i32 D).toArray (0, 0) _ ?_ ?_ Tryz.underlying30 ?_ ?_ ?_); exact rfl; exact HL.out.blk (P := D) (by simp only [List.mem_cons, true_or, or_true]); exact rfl; exact places_info HF.out.dl)
        | (go_at_call 16; ((with_reducible refine (CFW.out _ (HL.out.mov (A := A5) (c := c5) (by simp only [List.mem_cons, true_or, or_true]))).mono ?_); rintro e w13 ⟨rfl, hb⟩; replace HL := Lib.hid (HL.out.below hb); clear hb)))
      clear CFW
      obtain ⟨A18, c18, rfl, hA18⟩ := own_form (HL.out.row (t := 30) (s := 5) (v := v18) (n := L.length) (xs := rows5 (atN D (fS L) (fT L) (fG L)) L.length) (by simp only [List.mem_cons, true_or, or_true]))
      have HA18 := Lib.hid hA18
      clear hA18
      obtain ⟨A6, c6, rfl, -⟩ := own_form (HL.out.row (t := 46) (s := 3) (v := v6) (n := L.length) (xs := mvRow L) (by simp only [List.mem_cons, true_or, or_true]))
      simp only [List.append_eq, List.cons_append, List.nil_append]
      have qD : ∀ w, (Op.equalIn 10000 30 (.agg #[.int .i32 (gi D 0), .int .i32 (gi D 1), .int .i32 (gi D 2), .int .i32 (gi D 3), .int .i32 (gi D 4)]) (.agg #[.int .i32 (gi D 0), .int .i32 (gi D 1), .int .i32 (gi D 2), .int .i32 (gi D 3), .int .i32 (gi D 4)])).run Tryz.prog w = .ok true w := fun w => eqPl [gi D 0, gi D 1, gi D 2, gi D 3, gi D 4] rfl w
      have qE : ∀ w, (Op.equalIn 10000 30 (.agg #[.int .i32 (gi E 0), .int .i32 (gi E 1), .int .i32 (gi E 2), .int .i32 (gi E 3), .int .i32 (gi E 4)]) (.agg #[.int .i32 (gi E 0), .int .i32 (gi E 1), .int .i32 (gi E 2), .int .i32 (gi E 3), .int .i32 (gi E 4)])).run Tryz.prog w = .ok true w := fun w => eqPl [gi E 0, gi E 1, gi E 2, gi E 3, gi E 4] rfl w
      have qN : ∀ w, (Op.equalIn 10000 30 (.agg #[.int .i32 (gi N 0), .int .i32 (gi N 1), .int .i32 (gi N 2), .int .i32 (gi N 3), .int .i32 (gi N 4)]) (.agg #[.int .i32 (gi N 0), .int .i32 (gi N 1), .int .i32 (gi N 2), .int .i32 (gi N 3), .int .i32 (gi N 4)])).run Tryz.prog w = .ok true w := fun w => eqPl [gi N 0, gi N 1, gi N 2, gi N 3, gi N 4] rfl w
      have hpl : ∀ k, k < L.length → (atN D (fS L) (fT L) (fG L) (k + 1)).length = 5 := fun k _ => HF.out.al (k + 1)
      have HPL := Lib.hid hpl
      clear hpl
      go_upto_region 16 with (first
        | (go_at_call 17; (try clear s0 s1 s2 s3 s4); (try clear t0 t1 t2 t3 t4); (try clear u0 u1 u2 u3 u4); (try clear v0 v1 v2 v3 v4); ((with_reducible refine (c_sameMoves (.slice A6 L.length c6) (.slice A5 L.length c5) W.heap.size W.heap.size L _ (HL.out.row (by simp only [List.mem_cons, true_or, or_true])) (HL.out.row (by simp only [List.mem_cons, true_or, or_true])) HN.out).mono ?_); rintro e w14 ⟨rfl, hb⟩; replace HL := Lib.hid (HL.out.below hb); clear hb))
        | (go_at_call 18; ((with_reducible refine (CVM.out _ (HL.out.mov (A := A5) (c := c5) (by simp only [List.mem_cons, true_or, or_true]))).mono ?_); rintro e w15 ⟨rfl, hb⟩; replace HL := Lib.hid (HL.out.below hb); have s0 := HL.out.cell (g := g8) (P := D) (by simp only [List.mem_cons, true_or, or_true]) (k := 0) (by rw [HF.out.dl]; decide); have s1 := HL.out.cell (g := g8) (P := D) (by simp only [List.mem_cons, true_or, or_true]) (k := 1) (by rw [HF.out.dl]; decide); have s2 := HL.out.cell (g := g8) (P := D) (by simp only [List.mem_cons, true_or, or_true]) (k := 2) (by rw [HF.out.dl]; decide); have s3 := HL.out.cell (g := g8) (P := D) (by simp only [List.mem_cons, true_or, or_true]) (k := 3) (by rw [HF.out.dl]; decide); have s4 := HL.out.cell (g := g8) (P := D) (by simp only [List.mem_cons, true_or, or_true]) (k := 4) (by rw [HF.out.dl]; decide); have t0 := HL.out.cell (g := g10) (P := D) (by simp only [List.mem_cons, true_or, or_true]) (k := 0) (by rw [HF.out.dl]; decide); have t1 := HL.out.cell (g := g10) (P := D) (by simp only [List.mem_cons, true_or, or_true]) (k := 1) (by rw [HF.out.dl]; decide); have t2 := HL.out.cell (g := g10) (P := D) (by simp only [List.mem_cons, true_or, or_true]) (k := 2) (by rw [HF.out.dl]; decide); have t3 := HL.out.cell (g := g10) (P := D) (by simp only [List.mem_cons, true_or, or_true]) (k := 3) (by rw [HF.out.dl]; decide); have t4 := HL.out.cell (g := g10) (P := D) (by simp only [List.mem_cons, true_or, or_true]) (k := 4) (by rw [HF.out.dl]; decide); have u0 := HL.out.cell (g := g12) (P := E) (by simp only [List.mem_cons, true_or, or_true]) (k := 0) (by rw [HF.out.el]; decide); have u1 := HL.out.cell (g := g12) (P := E) (by simp only [List.mem_cons, true_or, or_true]) (k := 1) (by rw [HF.out.el]; decide); have u2 := HL.out.cell (g := g12) (P := E) (by simp only [List.mem_cons, true_or, or_true]) (k := 2) (by rw [HF.out.el]; decide); have u3 := HL.out.cell (g := g12) (P := E) (by simp only [List.mem_cons, true_or, or_true]) (k := 3) (by rw [HF.out.el]; decide); have u4 := HL.out.cell (g := g12) (P := E) (by simp only [List.mem_cons, true_or, or_true]) (k := 4) (by rw [HF.out.el]; decide); have v0 := HL.out.cell (g := g14) (P := E) (by simp only [List.mem_cons, true_or, or_true]) (k := 0) (by rw [HF.out.el]; decide); have v1 := HL.out.cell (g := g14) (P := E) (by simp only [List.mem_cons, true_or, or_true]) (k := 1) (by rw [HF.out.el]; decide); have v2 := HL.out.cell (g := g14) (P := E) (by simp only [List.mem_cons, true_or, or_true]) (k := 2) (by rw [HF.out.el]; decide); have v3 := HL.out.cell (g := g14) (P := E) (by simp only [List.mem_cons, true_or, or_true]) (k := 3) (by rw [HF.out.el]; decide); have v4 := HL.out.cell (g := g14) (P := E) (by simp only [List.mem_cons, true_or, or_true]) (k := 4) (by rw [HF.out.el]; decide); clear hb))
        | (go_at_call 19; (try clear s0 s1 s2 s3 s4); (try clear t0 t1 t2 t3 t4); (try clear u0 u1 u2 u3 u4); (try clear v0 v1 v2 v3 v4); ((with_reducible refine (c_samePlaces v16 (.slice A18 L.length c18) W.heap.size W.heap.size L.length (atN D (fS L) (fT L) (fG L)) _ (HL.out.row (by simp only [List.mem_cons, true_or, or_true])) (HL.out.row (by simp only [List.mem_cons, true_or, or_true])) HPL.out HN.out).mono ?_); rintro e w16 ⟨rfl, hb⟩; replace HL := Lib.hid (HL.out.below hb); clear hb; have s0 := HL.out.cell (g := g20) (P := N) (by simp only [List.mem_cons, true_or, or_true]) (k := 0) (by rw [HF.out.nl]; decide); have s1 := HL.out.cell (g := g20) (P := N) (by simp only [List.mem_cons, true_or, or_true]) (k := 1) (by rw [HF.out.nl]; decide); have s2 := HL.out.cell (g := g20) (P := N) (by simp only [List.mem_cons, true_or, or_true]) (k := 2) (by rw [HF.out.nl]; decide); have s3 := HL.out.cell (g := g20) (P := N) (by simp only [List.mem_cons, true_or, or_true]) (k := 3) (by rw [HF.out.nl]; decide); have s4 := HL.out.cell (g := g20) (P := N) (by simp only [List.mem_cons, true_or, or_true]) (k := 4) (by rw [HF.out.nl]; decide); have t0 := HL.out.cell (g := g22) (P := N) (by simp only [List.mem_cons, true_or, or_true]) (k := 0) (by rw [HF.out.nl]; decide); have t1 := HL.out.cell (g := g22) (P := N) (by simp only [List.mem_cons, true_or, or_true]) (k := 1) (by rw [HF.out.nl]; decide); have t2 := HL.out.cell (g := g22) (P := N) (by simp only [List.mem_cons, true_or, or_true]) (k := 2) (by rw [HF.out.nl]; decide); have t3 := HL.out.cell (g := g22) (P := N) (by simp only [List.mem_cons, true_or, or_true]) (k := 3) (by rw [HF.out.nl]; decide); have t4 := HL.out.cell (g := g22) (P := N) (by simp only [List.mem_cons, true_or, or_true]) (k := 4) (by rw [HF.out.nl]; decide))))
      clear s0 s1 s2 s3 s4 t0 t1 t2 t3 t4 qD qE qN CVM
      go_wp2
      go_loopw [27, 26] (fun kv sv wr => ∃ k : Nat, k ≤ 5 ∧ kv = .int .i64 (k : Int) ∧ sv = .int .i64 (sumZ N k) ∧ Hid (ML W [(g22, N), (g20, N), (g14, E), (g12, E), (g10, D), (g8, D)] [⟨30, 5, (.slice A18 L.length c18), L.length, rows5 (atN D (fS L) (fT L) (fG L)) L.length⟩, ⟨30, 5, v16, L.length, rows5 (atN D (fS L) (fT L) (fG L)) L.length⟩, ⟨46, 3, .slice A6 L.length c6, L.length, mvRow L⟩, ⟨46, 3, .slice A5 L.length c5, L.length, mvRow L⟩] wr)) (fun k _ _ => 5 - (intOf k).toNat)
      case atStart => exact ⟨0, by omega, rfl, rfl, HL⟩
      case round => as_aux_lemma =>
        clear HL
        obtain ⟨k, hk, rfl, rfl, HL⟩ := hrel
        by_cases hk5 : k < 5
        · as_aux_lemma =>
          have e1 : decide ((k : Int) < 5) = true := by simp; omega
          have k0 : (0 : Int) ≤ (k : Int) := by omega
          have k1 : (k : Int) < 5 := by omega
          have x22 := HL.out.cell (g := g22) (P := N) (by simp only [List.mem_cons, true_or, or_true]) (k := k) (by rw [HF.out.nl]; exact hk5)
          have x14 := HL.out.cell (g := g14) (P := E) (by simp only [List.mem_cons, true_or, or_true]) (k := k) (by rw [HF.out.el]; exact hk5)
          have x10 := HL.out.cell (g := g10) (P := D) (by simp only [List.mem_cons, true_or, or_true]) (k := k) (by rw [HF.out.dl]; exact hk5)
          rw [HF.out.model k] at x14
          have b1 := HF.out.nb k
          have b2 := HF.out.db k
          have b3 := sumZ_nb HF.out.nb k (by omega)
          have hlow := HF.out.low k hk5
          have hless := HF.out.less k hk5
          have HLow := Lib.hid hlow
          have HLess := Lib.hid hless
          have hs1 : sumZ N (k + 1) = sumZ N k + gi N k := rfl
          have HS1 := Lib.hid hs1
          clear hlow hless hs1
          have hw1 : IntKind.i64.wrap (sumZ N k + gi N k) = sumZ N k + gi N k := IntWalk.i64_in _ (by omega)
          have hw2 : IntKind.i32.wrap (gi D k + gi N k) = gi D k + gi N k := by rw [IntKind.wrap_i32]; omega
          go_upto_region 21 with (fail)
          go_quiet (fail)
          go_upto_region 24 with (fail)
          clear x22 x14 x10
          go_wp2
          go_loopw [29, 28] (fun iv lv wr => ∃ i : Nat, i ≤ L.length ∧ iv = .int .i64 (i : Int) ∧ lv = .int .i32 (lowN D (fS L) (fT L) (fG L) k i) ∧ Hid (ML W [(g22, N), (g20, N), (g14, E), (g12, E), (g10, D), (g8, D)] [⟨30, 5, (.slice A18 L.length c18), L.length, rows5 (atN D (fS L) (fT L) (fG L)) L.length⟩, ⟨30, 5, v16, L.length, rows5 (atN D (fS L) (fT L) (fG L)) L.length⟩, ⟨46, 3, .slice A6 L.length c6, L.length, mvRow L⟩, ⟨46, 3, .slice A5 L.length c5, L.length, mvRow L⟩] wr)) (fun i _ _ => L.length - (intOf i).toNat)
          case atStart => exact ⟨0, by omega, rfl, rfl, HL.out.drew _⟩
          case round => as_aux_lemma =>
            clear HL
            obtain ⟨i, hi, rfl, rfl, HL⟩ := hrel
            by_cases hil : i < L.length
            · as_aux_lemma =>
              have e2 : decide ((i : Int) < (L.length : Int)) = true := by simp; omega
              have i0 : (0 : Int) ≤ (i : Int) := by omega
              have i1 : (i : Int) < (L.length : Int) := by omega
              obtain ⟨g18, rfl, -⟩ := HA18.out (by omega)
              have x0 := (own_get (HL.out.row (t := 30) (s := 5) (v := .slice (some ⟨g18, 0, none⟩) L.length c18) (n := L.length) (xs := rows5 (atN D (fS L) (fT L) (fG L)) L.length) (by simp only [List.mem_cons, true_or, or_true])) (rows5_get (P := atN D (fS L) (fT L) (fG L)) (n := L.length) (fun k _ => HF.out.al (k + 1)) hil (j := k) hk5)).1
              have hl1 : lowN D (fS L) (fT L) (fG L) k (i + 1) = min (lowN D (fS L) (fT L) (fG L) k i) (gi (atN D (fS L) (fT L) (fG L) (i + 1)) k) := rfl
              have HL1 := Lib.hid hl1
              clear hl1
              generalize lowN D (fS L) (fT L) (fG L) k i = lo at *
              generalize gi (atN D (fS L) (fT L) (fG L) (i + 1)) k = xx at *
              go_wp2
              go_roundw
              case rel => exact ⟨i + 1, by omega, by go_num, by rw [HL1.out], HL⟩
              case measure => simp [intOf]; omega
            · as_aux_lemma =>
              obtain rfl : i = L.length := by omega
              have e2 : decide ((L.length : Int) < (L.length : Int)) = false := by simp
              rw [HLow.out]
              have q0 : ((0 : Int) != 0) = false := rfl
              have x10 := HL.out.cell (g := g10) (P := D) (by simp only [List.mem_cons, true_or, or_true]) (k := k) (by rw [HF.out.dl]; exact hk5)
              cases q1 : decide (0 < gi D k)
              · as_aux_lemma =>
                go_wp2
                go_roundw
                case rel => exact ⟨k + 1, by omega, by go_num, by rw [HS1.out], HL⟩
                case measure => simp [intOf]; omega
              · as_aux_lemma =>
                obtain ⟨cc, hc⟩ := HLess.out (of_decide_eq_true q1)
                have dl2 : (D.set k (gi D k - 1)).length = 5 := by rw [List.length_set]; exact HF.out.dl
                have HDL2 := Lib.hid dl2
                have CFL := Lib.hid (fun w (h : MovesAt w A5 L.length (fS L) (fT L) (fG L)) => hc ▸ c_iFirstWrong (D.set k (gi D k - 1)) A5 L.length c5 (fS L) (fT L) (fG L) w dl2 (fun j => by rw [gi_setP _ (by rw [HF.out.dl]; exact hk5)]; have := HF.out.db j; split <;> omega) h HN.out HG.out)
                clear hc dl2
                have HFG := Lib.hid HL.out.fresh
                have HWN := Lib.hid HL.out.b.size
                go_upto_region 32 with (first
                  | ((with_reducible refine ev_ld 30 10 g10 30 (nums .i32 D).toArray (0, 0) _ ?_ ?_ Tryz.underlying30 ?_ ?_ ?_); exact rfl; exact HL.out.blk (P := D) (by simp only [List.mem_cons, true_or, or_true]); exact rfl; exact places_info HF.out.dl)
                  | ((with_reducible refine ev_st 30 30 250 (wr.heap.size) (nums .i32 D).toArray 30 _ ?_ ?_ (heap_alloc_new wr _) ?_ ?_ ?_ ?_); exact rfl; exact rfl; exact places_info HF.out.dl; exact sz5 HF.out.dl _ _ _ _ _; exact nums_one _ _; intro wS hblk ht; have hb := tou_newL ht; clear ht; replace HL := Lib.hid (HL.out.below hb); replace HL := Lib.hid (HL.out.addK D hblk); clear hblk hb))
                generalize wr.heap.size = g30 at *
                have y0 := HL.out.cell (g := g30) (P := D) (by simp only [List.mem_cons, true_or, or_true]) (k := k) (by rw [HF.out.dl]; exact hk5)
                have y1 := blk_frozen (HL.out.blk (g := g30) (P := D) (by simp only [List.mem_cons, true_or, or_true])) k
                have hw3 : IntKind.i32.wrap (gi D k - 1) = gi D k - 1 := by rw [IntKind.wrap_i32]; omega
                clear x10
                go_upto_region 33 with (fail)
                have HL2 : Hid (ML W ((g30, D.set k (gi D k - 1)) :: [(g22, N), (g20, N), (g14, E), (g12, E), (g10, D), (g8, D)]) [⟨30, 5, (.slice A18 L.length c18), L.length, rows5 (atN D (fS L) (fT L) (fG L)) L.length⟩, ⟨30, 5, v16, L.length, rows5 (atN D (fS L) (fT L) (fG L)) L.length⟩, ⟨46, 3, .slice A6 L.length c6, L.length, mvRow L⟩, ⟨46, 3, .slice A5 L.length c5, L.length, mvRow L⟩] (wS.setCell ⟨g30, k, none⟩ (.int .i32 (gi D k - 1)))) := ((HL.out.sub (K' := [(g22, N), (g20, N), (g14, E), (g12, E), (g10, D), (g8, D)]) (fun p hp => List.mem_cons_of_mem _ hp)).tou (Tou.setCell _ g30 k _) HWN.out HFG.out.1 HFG.out.2).addK _ (less_set (HL.out.blk (g := g30) (P := D) (by simp only [List.mem_cons, true_or, or_true])) _)
                replace HL := HL2
                clear HL2 y0 y1
                go_upto_region 34 with (first
                  | ((with_reducible refine ev_ld 30 30 g30 30 (nums .i32 (D.set k (gi D k - 1))).toArray (0, 0) _ ?_ ?_ Tryz.underlying30 ?_ ?_ ?_); exact rfl; exact HL.out.blk (P := (D.set k (gi D k - 1))) (by simp only [List.mem_cons, true_or, or_true]); exact rfl; exact places_info HDL2.out)
                  | (go_at_call 16; ((with_reducible refine (CFL.out _ (HL.out.mov (A := A5) (c := c5) (by simp only [List.mem_cons, true_or, or_true]))).mono ?_); rintro e w20 ⟨rfl, hb⟩; replace HL := Lib.hid (HL.out.below hb); clear hb)))
                go_wp2
                go_roundw
                case rel => exact ⟨k + 1, by omega, by go_num, by rw [HS1.out], HL.out.sub (fun p hp => List.mem_cons_of_mem _ hp)⟩
                case measure => simp [intOf]; omega
        · as_aux_lemma =>
          obtain rfl : k = 5 := by omega
          have e1 : decide (((5 : Nat) : Int) < 5) = false := by simp
          rw [HF.out.sum]
          have q0 : ((0 : Int) != 0) = false := rfl
          have hm6 : M.length ≤ 6 := Nat.le_trans HF.out.mle hl
          have hmn : M.length ≤ 1048576 := by omega
          have hmg : ∀ j, j < M.length → (-32768 ≤ fG M j ∧ fG M j ≤ 32767) ∧ (-128 ≤ fS M j ∧ fS M j ≤ 127) ∧ (-128 ≤ fT M j ∧ fT M j ≤ 127) := fun j hj => by have := okMove_all (HF.out.mok j hj); omega
          have HMN := Lib.hid hmn
          have CGI := Lib.hid (fun w (h : MovesAt w A5 L.length (fS L) (fT L) (fG L)) => HF.out.merged ▸ c_iMergeMoves A5 L.length c5 (fS L) (fT L) (fG L) w h HN.out HG.out)
          have CGS := Lib.hid (fun w (h : MovesAt w A5 L.length (fS L) (fT L) (fG L)) => HF.out.merged ▸ c_sMergeMoves A5 L.length c5 (fS L) (fT L) (fG L) w h HN.out HG.out)
          go_upto_region 39 with (first
            | (go_at_call 20; ((with_reducible refine (CGI.out _ (HL.out.mov (A := A5) (c := c5) (by simp only [List.mem_cons, true_or, or_true]))).mono ?_); rintro e w30 ⟨v33, rfl, hO, hb⟩; replace hO := own_mono hO HL.out.b.size; replace HL := Lib.hid ((HL.out.below hb).addR ⟨46, 3, v33, M.length, mvRow M⟩ hO); clear hO hb)))
          go_upto_region 40 with (first
            | (go_at_call 21; ((with_reducible refine (CGS.out _ (HL.out.mov (A := A5) (c := c5) (by simp only [List.mem_cons, true_or, or_true]))).mono ?_); rintro e w31 ⟨v35, rfl, hO, hb⟩; replace hO := own_mono hO HL.out.b.size; replace HL := Lib.hid ((HL.out.below hb).addR ⟨46, 3, v35, M.length, mvRow M⟩ hO); clear hO hb)))
          obtain ⟨A35, c35, rfl, hA35⟩ := own_form (HL.out.row (t := 46) (s := 3) (v := v35) (n := M.length) (xs := mvRow M) (by simp only [List.mem_cons, true_or, or_true]))
          have HA35 := Lib.hid hA35
          have CNM := Lib.hid (fun w (h : MovesAt w A35 M.length (fS M) (fT M) (fG M)) => HF.out.mnet ▸ c_iNetMoves A35 M.length c35 (fS M) (fT M) (fG M) w h hmn hmg)
          clear hA35 hmn hmg CGI CGS
          go_upto_region 41 with (first
            | (go_at_call 14; ((with_reducible refine (CNM.out _ (HL.out.mov (A := A35) (c := c35) (by simp only [List.mem_cons, true_or, or_true]))).mono ?_); rintro e w32 ⟨rfl, hb⟩; replace HL := Lib.hid (HL.out.below hb); clear hb))
            | ((with_reducible refine ev_st 30 37 279 (w32.heap.size) (nums .i32 N).toArray 30 _ ?_ ?_ (heap_alloc_new w32 _) ?_ ?_ ?_ ?_); exact rfl; exact rfl; exact places_info HF.out.nl; exact sz5 HF.out.nl _ _ _ _ _; exact nums_one _ _; intro wS hblk ht; have hb := tou_newL ht; clear ht; replace HL := Lib.hid (HL.out.below hb); replace HL := Lib.hid (HL.out.addK N hblk); clear hblk hb))
          generalize w32.heap.size = g37 at *
          clear CNM q0
          have qN : ∀ w, (Op.equalIn 10000 30 (.agg #[.int .i32 (gi N 0), .int .i32 (gi N 1), .int .i32 (gi N 2), .int .i32 (gi N 3), .int .i32 (gi N 4)]) (.agg #[.int .i32 (gi N 0), .int .i32 (gi N 1), .int .i32 (gi N 2), .int .i32 (gi N 3), .int .i32 (gi N 4)])).run Tryz.prog w = .ok true w := fun w => eqPl [gi N 0, gi N 1, gi N 2, gi N 3, gi N 4] rfl w
          have qm : decide ((L.length : Int) < (M.length : Int)) = false := by have := HF.out.mle; simp; omega
          have qm2 : ¬ L.length < M.length := by have := HF.out.mle; omega
          go_upto_region 43 with (first
            | (go_at_call 17; (try clear s0 s1 s2 s3 s4); (try clear t0 t1 t2 t3 t4); (try clear u0 u1 u2 u3 u4); (try clear v0 v1 v2 v3 v4); ((with_reducible refine (c_sameMoves v33 (.slice A35 M.length c35) W.heap.size W.heap.size M _ (HL.out.row (by simp only [List.mem_cons, true_or, or_true])) (HL.out.row (by simp only [List.mem_cons, true_or, or_true])) HMN.out).mono ?_); rintro e w33 ⟨rfl, hb⟩; replace HL := Lib.hid (HL.out.below hb); clear hb; have s0 := HL.out.cell (g := g37) (P := N) (by simp only [List.mem_cons, true_or, or_true]) (k := 0) (by rw [HF.out.nl]; decide); have s1 := HL.out.cell (g := g37) (P := N) (by simp only [List.mem_cons, true_or, or_true]) (k := 1) (by rw [HF.out.nl]; decide); have s2 := HL.out.cell (g := g37) (P := N) (by simp only [List.mem_cons, true_or, or_true]) (k := 2) (by rw [HF.out.nl]; decide); have s3 := HL.out.cell (g := g37) (P := N) (by simp only [List.mem_cons, true_or, or_true]) (k := 3) (by rw [HF.out.nl]; decide); have s4 := HL.out.cell (g := g37) (P := N) (by simp only [List.mem_cons, true_or, or_true]) (k := 4) (by rw [HF.out.nl]; decide); have t0 := HL.out.cell (g := g22) (P := N) (by simp only [List.mem_cons, true_or, or_true]) (k := 0) (by rw [HF.out.nl]; decide); have t1 := HL.out.cell (g := g22) (P := N) (by simp only [List.mem_cons, true_or, or_true]) (k := 1) (by rw [HF.out.nl]; decide); have t2 := HL.out.cell (g := g22) (P := N) (by simp only [List.mem_cons, true_or, or_true]) (k := 2) (by rw [HF.out.nl]; decide); have t3 := HL.out.cell (g := g22) (P := N) (by simp only [List.mem_cons, true_or, or_true]) (k := 3) (by rw [HF.out.nl]; decide); have t4 := HL.out.cell (g := g22) (P := N) (by simp only [List.mem_cons, true_or, or_true]) (k := 4) (by rw [HF.out.nl]; decide))))
          clear s0 s1 s2 s3 s4 t0 t1 t2 t3 t4 qN qm qm2 e1
          go_wp2
          go_loopw [39] (fun iv wr => ∃ p : Nat, 1 ≤ p ∧ p ≤ 10 ∧ iv = .int .i64 (p : Int) ∧ Hid (ML W [(g37, N), (g22, N), (g20, N), (g14, E), (g12, E), (g10, D), (g8, D)] [⟨46, 3, (.slice A35 M.length c35), M.length, mvRow M⟩, ⟨46, 3, v33, M.length, mvRow M⟩, ⟨30, 5, (.slice A18 L.length c18), L.length, rows5 (atN D (fS L) (fT L) (fG L)) L.length⟩, ⟨30, 5, v16, L.length, rows5 (atN D (fS L) (fT L) (fG L)) L.length⟩, ⟨46, 3, .slice A6 L.length c6, L.length, mvRow L⟩, ⟨46, 3, .slice A5 L.length c5, L.length, mvRow L⟩] wr)) (fun i _ => 100 - (intOf i).toNat)
          case atStart => exact ⟨1, by omega, by omega, rfl, HL⟩
          case round => as_aux_lemma =>
            clear HL
            obtain ⟨p, hp1, hp10, rfl, HL⟩ := hrel
            by_cases him : p < M.length
            · as_aux_lemma =>
              have e2 : decide ((p : Int) < (M.length : Int)) = true := by simp; omega
              obtain ⟨i, hpi⟩ : ∃ i, p = i + 1 := ⟨p - 1, by omega⟩
              have i0 : (0 : Int) ≤ (i : Int) := by omega
              have i1 : (i : Int) < (M.length : Int) := by omega
              have j0 : (0 : Int) ≤ (p : Int) := by omega
              have j1 : (p : Int) < (M.length : Int) := by omega
              have hw1 : IntKind.i64.wrap ((p : Int) - 1) = (i : Int) := by rw [IntKind.wrap_i64]; omega
              obtain ⟨g35, rfl, -⟩ := HA35.out (by omega)
              obtain ⟨x0, x1, x2⟩ := HL.out.mv (g := g35) (c := c35) (L := M) (by simp only [List.mem_cons, true_or, or_true]) him
              obtain ⟨y0, y1, y2⟩ := HL.out.mv (g := g35) (c := c35) (L := M) (by simp only [List.mem_cons, true_or, or_true]) (i := i) (by omega)
              obtain ⟨n1, n2⟩ := HF.out.mnext p (by omega) him
              have hpi2 : p - 1 = i := by omega
              rw [hpi2] at n1 n2
              have q1 : decide (fS M p < fS M i) = false := by simp only [decide_eq_false_iff_not]; exact n1
              have HN2 := Lib.hid n2
              have HPI := Lib.hid hpi
              clear n1 n2 x2 y2 hpi hpi2
              generalize fS M p = aa at *
              generalize fS M i = bb at *
              generalize fT M p = ca at *
              generalize fT M i = cb at *
              cases q2 : (aa == bb)
              · as_aux_lemma =>
                go_wp2
                go_quiet (fail)
                go_wp2
                go_roundw
                case rel => exact ⟨p + 1, by omega, by omega, by go_num, HL.out.drew _⟩
                case measure => simp [intOf]; omega
              · as_aux_lemma =>
                have q3 : decide (ca ≤ cb) = false := by simp only [decide_eq_false_iff_not]; exact fun h => HN2.out ⟨beq_iff_eq.1 q2, h⟩
                go_wp2
                go_quiet (fail)
                go_wp2
                go_roundw
                case rel => exact ⟨p + 1, by omega, by omega, by go_num, HL.out.drew _⟩
                case measure => simp [intOf]; omega
            · as_aux_lemma =>
              have e2 : decide ((p : Int) < (M.length : Int)) = false := by simp; omega
              by_cases hl0 : 0 < L.length
              · as_aux_lemma =>
                have e3 : decide (0 < (L.length : Int)) = true := by simp; omega
                obtain ⟨g5, rfl, hg5⟩ := HA5.out hl0
                have hnc := own_cap (HL.out.row (t := 46) (s := 3) (v := .slice (some ⟨g5, 0, none⟩) L.length c5) (n := L.length) (xs := mvRow L) (by simp only [List.mem_cons, true_or, or_true]))
                have hl1 : 1 ≤ (L.length : Int) ∧ (L.length : Int) ≤ 200 := by omega
                go_upto_region 50 with (go_at_call 22; ((with_reducible refine (CK1.out _ hl1 _ HL.out.b).mono ?_); rintro e w40 ⟨r, rfl, p0, p1, hb⟩; obtain ⟨at_, rfl⟩ := Int.eq_ofNat_of_zero_le p0; replace HL := Lib.hid (HL.out.below hb); clear hb))
                have hat : at_ < L.length := by omega
                obtain ⟨U, hU, hUl⟩ := undo_ok HF.out.vld hat
                have hun : U.length ≤ 1048576 := by have := HN.out; omega
                have HUN := Lib.hid hun
                have CUI := Lib.hid (fun w (h : MovesAt w (some ⟨g5, 0, none⟩) L.length (fS L) (fT L) (fG L)) => hU ▸ c_iUndoMoveC g5 L.length c5 hnc (fS L) (fT L) (fG L) (at_ : Int) w h HN.out HG.out)
                have CUS := Lib.hid (fun w (h : MovesAt w (some ⟨g5, 0, none⟩) L.length (fS L) (fT L) (fG L)) => hU ▸ c_sUndoMoveC g5 L.length c5 hnc (fS L) (fT L) (fG L) (at_ : Int) w h HN.out HG.out)
                clear hU hun
                go_upto_region 51 with (first
                  | (go_at_call 23; ((with_reducible refine (CUI.out _ (HL.out.mov (A := some ⟨g5, 0, none⟩) (c := c5) (by simp only [List.mem_cons, true_or, or_true]))).mono ?_); rintro e w41 ⟨v41, rfl, hO, hb⟩; replace hO := own_mono hO HL.out.b.size; replace HL := Lib.hid ((HL.out.below hb).addR ⟨46, 3, v41, U.length, mvRow U⟩ hO); clear hO hb)))
                go_upto_region 52 with (first
                  | (go_at_call 24; ((with_reducible refine (CUS.out _ (HL.out.mov (A := some ⟨g5, 0, none⟩) (c := c5) (by simp only [List.mem_cons, true_or, or_true]))).mono ?_); rintro e w42 ⟨v43, rfl, hO, hb⟩; replace hO := own_mono hO HL.out.b.size; replace HL := Lib.hid ((HL.out.below hb).addR ⟨46, 3, v43, U.length, mvRow U⟩ hO); clear hO hb)))
                obtain ⟨A43, c43, rfl, -⟩ := own_form (HL.out.row (t := 46) (s := 3) (v := v43) (n := U.length) (xs := mvRow U) (by simp only [List.mem_cons, true_or, or_true]))
                clear CUI CUS
                have hok := HF.out.ok at_ hat
                obtain ⟨ma, mb⟩ := may_one hok
                obtain ⟨⟨f0, f1⟩, ⟨f2, f3⟩, -⟩ := okMove_all hok
                have HF0 := Lib.hid f0
                have CM1 := Lib.hid (fun w => ma ▸ c_iMayMove (fS L at_) (fT L at_) w)
                have CM2 := Lib.hid (fun w => mb ▸ c_iMayMove (fT L at_) (fS L at_) w)
                have hw5 : IntKind.i64.wrap ((L.length : Int) - 1) = (U.length : Int) := by rw [IntKind.wrap_i64]; omega
                have qu : ((U.length : Int) != (U.length : Int)) = false := by simp
                have qu3 : ((U.length : Int) != (L.length : Int) - 1) = false := by simp; omega
                have qu4 : (U.length != L.length - 1) = false := by simp; omega
                have at0 : (0 : Int) ≤ (at_ : Int) := by omega
                have at1 : (at_ : Int) < (L.length : Int) := by omega
                clear hok ma mb
                obtain ⟨x0, x1, x2⟩ := HL.out.mv (g := g5) (c := c5) (L := L) (by simp only [List.mem_cons, true_or, or_true]) hat
                clear x2
                obtain ⟨fa, hfa⟩ : ∃ fa, fS L at_ = fa := ⟨_, rfl⟩
                obtain ⟨fb, hfb⟩ : ∃ fb, fT L at_ = fb := ⟨_, rfl⟩
                rw [hfa] at CM1 CM2 x0 f0 f1
                rw [hfb] at CM1 CM2 x1 f2 f3
                have HFA := Lib.hid hfa
                have HFB := Lib.hid hfb
                clear hfa hfb
                go_wp2
                have CSQ : Hid (∀ n, Calls Tryz.prog 17 #[v41, .slice A43 U.length c43] (w42.drewN n) fun e w' => e = .returned (.bool true) ∧ ∃ m, w' = (w42.drewN n).drewN m) := fun n => c_sameMovesQ v41 (.slice A43 U.length c43) W.heap.size W.heap.size U _ ((HL.out.drew n).row (by simp only [List.mem_cons, true_or, or_true])) ((HL.out.drew n).row (by simp only [List.mem_cons, true_or, or_true])) HUN.out
                clear hg5 hnc hl1 hUl p0 p1 hat HUN HFA HFB
                go_quiet (first
                  | (go_at_call 17; with_reducible exact Calls.quiet_of (CSQ.out _))
                  | (go_at_call 25; with_reducible exact Calls.quiet_of_same (flipw (CM1.out _)))
                  | (go_at_call 25; with_reducible exact Calls.quiet_of_same (flipw (CM2.out _))))
                replace HL := Lib.hid (HL.out.drew nq)
                clear x0 x1
                go_upto_region 54 with (fail)
                replace HL := Lib.hid HL.out.bare
                have h9 : 1 ≤ (9 : Int) ∧ (9 : Int) ≤ 200 := by omega
                have h200 : 1 ≤ (200 : Int) ∧ (200 : Int) ≤ 200 := by omega
                clear HF HA5 HA18 HA35 HG HN HLD
                go_upto_region 55 with (first
                  | (go_at_call 22; ((with_reducible refine (CK0.out _ h9 _ HL.out.b).mono ?_); rintro e w50 ⟨ga, rfl, pa0, pa1, hb⟩; replace HL := Lib.hid (HL.out.below hb); clear hb))
                  | (go_at_call 22; ((with_reducible refine (CK1.out _ h9 _ HL.out.b).mono ?_); rintro e w51 ⟨gb, rfl, pb0, pb1, hb⟩; replace HL := Lib.hid (HL.out.below hb); clear hb)))
                have hzq := HL.out.b.size
                have hO : (w51.alloc (.cells #[.int .i64 3, .int .i64 ga, .int .i64 gb] 2 (0, 0))).ownsRow W.heap.size 2 1 (.slice (some ⟨w51.heap.size, 0, none⟩) 3 3) 3 (nums .i64 [3, ga, gb]) := own_of_row (heap_alloc_new w51 (.cells #[.int .i64 3, .int .i64 ga, .int .i64 gb] 2 (0, 0))) rfl (by omega) (by omega)
                replace HL := Lib.hid ((HL.out.below (below_alloc (Below.refl _ _) (.cells #[.int .i64 3, .int .i64 ga, .int .i64 gb] 2 (0, 0)))).addR ⟨2, 1, .slice (some ⟨w51.heap.size, 0, none⟩) 3 3, 3, nums .i64 [3, ga, gb]⟩ hO)
                clear hO
                generalize hwl : w51.alloc (.cells #[.int .i64 3, .int .i64 ga, .int .i64 gb] 2) = wl at *
                clear hwl
                generalize w51.heap.size = gq at *
                go_upto_region 56 with (go_at_call 22; ((with_reducible refine (CK1.out _ h200 _ HL.out.b).mono ?_); rintro e w52 ⟨cc, rfl, pc0, pc1, hb⟩; replace HL := Lib.hid (HL.out.below hb); clear hb))
                obtain ⟨P, hS, hP3, hP, hPb, hPn⟩ := share_all (c := cc) (a := ga) (b := gb) ⟨pc0, pc1⟩ ⟨pa0, pa1⟩ ⟨pb0, pb1⟩
                have CSI : Hid (∀ w, RdRow w (some ⟨gq, 0, none⟩) (nums .i64 [3, ga, gb]) → Calls Tryz.prog 26 #[.int .i64 cc, .slice (some ⟨gq, 0, none⟩) 3 3] w fun e w' => ∃ v, e = .returned (.tuple #[v, .int .i64 0]) ∧ w'.ownsRow w.heap.size 2 1 v 3 (nums .i64 P) ∧ Below w.heap.size w w') := fun w h => by
                  have := c_iShareCents (some ⟨gq, 0, none⟩) 3 3 [3, ga, gb] cc w h rfl (by omega)
                  rw [hS] at this
                  dsimp only at this
                  rw [hP3] at this
                  exact this
                have CSS : Hid (∀ w, RdRow w (some ⟨gq, 0, none⟩) (nums .i64 [3, ga, gb]) → Calls Tryz.prog 27 #[.int .i64 cc, .slice (some ⟨gq, 0, none⟩) 3 3] w fun e w' => ∃ v, e = .returned (.tuple #[v, .int .i64 0]) ∧ w'.ownsRow w.heap.size 2 1 v 3 (nums .i64 P) ∧ Below w.heap.size w w') := fun w h => by
                  have := c_sShareCents (some ⟨gq, 0, none⟩) 3 3 [3, ga, gb] cc w h rfl (by omega) (fun j => by
                    rcases (show j = 0 ∨ j = 1 ∨ j = 2 ∨ 3 ≤ j by omega) with rfl | rfl | rfl | hj
                    · show -9223372036854775808 ≤ (3 : Int) ∧ (3 : Int) ≤ 9223372036854775807; omega
                    · show -9223372036854775808 ≤ ga ∧ ga ≤ 9223372036854775807; omega
                    · show -9223372036854775808 ≤ gb ∧ gb ≤ 9223372036854775807; omega
                    · have : gi [3, ga, gb] j = 0 := by simp [gi, List.getD_eq_getElem?_getD, List.getElem?_eq_none (show [3, ga, gb].length ≤ j from hj)]
                      rw [this]; omega)
                  rw [hS] at this
                  dsimp only at this
                  rw [hP3] at this
                  exact this
                clear hS
                go_upto_region 57 with (first
                  | (go_at_call 26; ((with_reducible refine (CSI.out _ (HL.out.i64 (A := some ⟨gq, 0, none⟩) (n := 3) (c := 3) (by simp only [List.mem_cons, true_or, or_true]))).mono ?_); rintro e w53 ⟨v47, rfl, hO, hb⟩; replace hO := own_mono hO HL.out.b.size; replace HL := Lib.hid ((HL.out.below hb).addR ⟨2, 1, v47, 3, nums .i64 P⟩ hO); clear hO hb)))
                go_upto_region 58 with (first
                  | (go_at_call 27; ((with_reducible refine (CSS.out _ (HL.out.i64 (A := some ⟨gq, 0, none⟩) (n := 3) (c := 3) (by simp only [List.mem_cons, true_or, or_true]))).mono ?_); rintro e w54 ⟨v49, rfl, hO, hb⟩; replace hO := own_mono hO HL.out.b.size; replace HL := Lib.hid ((HL.out.below hb).addR ⟨2, 1, v49, 3, nums .i64 P⟩ hO); clear hO hb)))
                obtain ⟨A49, c49, rfl, hA49⟩ := own_form (HL.out.row (t := 2) (s := 1) (v := v49) (n := 3) (xs := nums .i64 P) (by simp only [List.mem_cons, true_or, or_true]))
                obtain ⟨g49, rfl, -⟩ := hA49 (by omega)
                have CSP : Hid (∀ w, RdRow w (some ⟨g49, 0, none⟩) (nums .i64 P) → Calls Tryz.prog 29 #[.slice (some ⟨g49, 0, none⟩) 3 c49] w fun e w' => e = .returned (.int .i64 cc) ∧ w = w') := fun w h => by
                  have := c_sumOf (some ⟨g49, 0, none⟩) 3 c49 P w h hP3 (by omega) (fun k hk => by
                    have b0 := hPb 0 (by omega)
                    have b1 := hPb 1 (by omega)
                    have b2 := hPb 2 (by omega)
                    rcases (show k = 0 ∨ k = 1 ∨ k = 2 ∨ k = 3 by omega) with rfl | rfl | rfl | rfl <;> simp only [sumZ] <;> omega)
                  rw [hP] at this
                  exact this
                have CSG : Hid (∀ w, RdRow w (some ⟨gq, 0, none⟩) (nums .i64 [3, ga, gb]) → Calls Tryz.prog 29 #[.slice (some ⟨gq, 0, none⟩) 3 3] w fun e w' => e = .returned (.int .i64 (3 + ga + gb)) ∧ w = w') := fun w h => by
                  have hs : sumZ [3, ga, gb] 3 = 3 + ga + gb := by simp [sumZ, gi]
                  have := c_sumOf (some ⟨gq, 0, none⟩) 3 3 [3, ga, gb] w h rfl (by omega) (fun k hk => by
                    rcases (show k = 0 ∨ k = 1 ∨ k = 2 ∨ k = 3 by omega) with rfl | rfl | rfl | rfl <;> simp [sumZ, gi] <;> omega)
                  rw [hs] at this
                  exact this
                have h3n : (3 : Nat) ≤ 1048576 := by omega
                have HPB := Lib.hid hPb
                have HPN := Lib.hid hPn
                clear hA49 CSI CSS hPb hPn hP
                go_upto_region 60 with (first
                  | (go_at_call 28; ((with_reducible refine (c_sameNumbers v47 (.slice (some ⟨g49, 0, none⟩) 3 c49) W.heap.size W.heap.size 3 P _ (HL.out.row (by simp only [List.mem_cons, true_or, or_true])) (HL.out.row (by simp only [List.mem_cons, true_or, or_true])) h3n).mono ?_); rintro e w55 ⟨rfl, hb⟩; replace HL := Lib.hid (HL.out.below hb); clear hb))
                  | (go_at_call 29; ((with_reducible refine (CSP.out _ (HL.out.i64 (A := some ⟨g49, 0, none⟩) (n := 3) (c := c49) (by simp only [List.mem_cons, true_or, or_true]))).mono ?_); rintro e w56 ⟨rfl, rfl⟩)))
                go_upto_region 61 with (first
                  | (go_at_call 29; ((with_reducible refine (CSG.out _ (HL.out.i64 (A := some ⟨gq, 0, none⟩) (n := 3) (c := 3) (by simp only [List.mem_cons, true_or, or_true]))).mono ?_); rintro e w57 ⟨rfl, rfl⟩)))
                clear CSP CSG
                obtain ⟨T, hT⟩ : ∃ T, 3 + ga + gb = T := ⟨_, rfl⟩
                rw [hT] at HPN
                have hT1 : 3 ≤ T ∧ T ≤ 19 := by omega
                simp only [hT]
                clear hT
                go_wp2
                go_loopw [52] (fun iv wr => ∃ k : Nat, k ≤ 3 ∧ iv = .int .i64 (k : Int) ∧ Hid (ML W [] [⟨2, 1, .slice (some ⟨g49, 0, none⟩) 3 c49, 3, nums .i64 P⟩, ⟨2, 1, v47, 3, nums .i64 P⟩, ⟨2, 1, .slice (some ⟨gq, 0, none⟩) 3 3, 3, nums .i64 [3, ga, gb]⟩] wr)) (fun i _ => 3 - (intOf i).toNat)
                case atStart => exact ⟨0, by omega, rfl, HL⟩
                case round => as_aux_lemma =>
                  clear HL
                  obtain ⟨k, hk, rfl, HL⟩ := hrel
                  by_cases hk3 : k < 3
                  · as_aux_lemma =>
                    have e1 : decide ((k : Int) < 3) = true := by simp; omega
                    have k0 : (0 : Int) ≤ (k : Int) := by omega
                    have k1 : (k : Int) < 3 := by omega
                    have x0 := (own_get (HL.out.row (t := 2) (s := 1) (v := .slice (some ⟨g49, 0, none⟩) 3 c49) (n := 3) (xs := nums .i64 P) (by simp only [List.mem_cons, true_or, or_true])) (nums_get (k := .i64) (zs := P) (j := k) (by rw [hP3]; exact hk3))).1
                    have x1 := (own_get (HL.out.row (t := 2) (s := 1) (v := .slice (some ⟨gq, 0, none⟩) 3 3) (n := 3) (xs := nums .i64 [3, ga, gb]) (by simp only [List.mem_cons, true_or, or_true])) (nums_get (k := .i64) (zs := [3, ga, gb]) (j := k) hk3)).1
                    obtain ⟨b0, b1⟩ := HPB.out k hk3
                    obtain ⟨n0, n1⟩ := HPN.out k hk3
                    have gb0 : 0 ≤ gi [3, ga, gb] k ∧ gi [3, ga, gb] k ≤ 9 := by
                      rcases (show k = 0 ∨ k = 1 ∨ k = 2 by omega) with rfl | rfl | rfl
                      · show (0 : Int) ≤ 3 ∧ (3 : Int) ≤ 9; omega
                      · show 0 ≤ ga ∧ ga ≤ 9; omega
                      · show 0 ≤ gb ∧ gb ≤ 9; omega
                    generalize gi P k = pk at *
                    generalize gi [3, ga, gb] k = gk at *
                    have m0 : 0 ≤ pk * T := Int.mul_nonneg b0 (by omega)
                    have m1 : pk * T ≤ 1000100 * 19 := Int.mul_le_mul b1 hT1.2 (by omega) (by omega)
                    have m2 : 0 ≤ cc * gk := Int.mul_nonneg pc0 gb0.1
                    have m3 : cc * gk ≤ 200 * 9 := Int.mul_le_mul (by omega) gb0.2 gb0.1 (by omega)
                    have hw1 : IntKind.i64.wrap (pk * T) = pk * T := IntWalk.i64_in _ (by omega)
                    have hw2 : IntKind.i64.wrap (cc * gk) = cc * gk := IntWalk.i64_in _ (by omega)
                    have hw3 : IntKind.i64.wrap (pk * T - cc * gk) = pk * T - cc * gk := IntWalk.i64_in _ (by omega)
                    have hw4 : IntKind.i64.wrap (-T) = -T := IntWalk.i64_in _ (by omega)
                    have q1 : decide (T ≤ pk * T - cc * gk) = false := by simp only [decide_eq_false_iff_not]; omega
                    have q2 : decide (pk * T - cc * gk ≤ -T) = false := by simp only [decide_eq_false_iff_not]; omega
                    clear m0 m1 m2 m3 n0 n1 b0 b1 gb0
                    go_wp2
                    go_quiet (fail)
                    go_wp2
                    go_roundw
                    case rel => exact ⟨k + 1, by omega, by go_num, HL.out.drew _⟩
                    case measure => simp [intOf]; omega
                  · as_aux_lemma =>
                    obtain rfl : k = 3 := by omega
                    have e1 : decide (((3 : Nat) : Int) < 3) = false := by simp
                    go_wp2
                    go_ret
                    exact ⟨rfl, HL.out.b⟩
              · as_aux_lemma =>
                have e3 : decide (0 < (L.length : Int)) = false := by simp only [decide_eq_false_iff_not]; omega
                replace HL := Lib.hid HL.out.bare
                have h9 : 1 ≤ (9 : Int) ∧ (9 : Int) ≤ 200 := by omega
                have h200 : 1 ≤ (200 : Int) ∧ (200 : Int) ≤ 200 := by omega
                clear HF HA5 HA18 HA35 HG HN HLD
                go_upto_region 55 with (first
                  | (go_at_call 22; ((with_reducible refine (CK0.out _ h9 _ HL.out.b).mono ?_); rintro e w50 ⟨ga, rfl, pa0, pa1, hb⟩; replace HL := Lib.hid (HL.out.below hb); clear hb))
                  | (go_at_call 22; ((with_reducible refine (CK1.out _ h9 _ HL.out.b).mono ?_); rintro e w51 ⟨gb, rfl, pb0, pb1, hb⟩; replace HL := Lib.hid (HL.out.below hb); clear hb)))
                have hzq := HL.out.b.size
                have hO : (w51.alloc (.cells #[.int .i64 3, .int .i64 ga, .int .i64 gb] 2 (0, 0))).ownsRow W.heap.size 2 1 (.slice (some ⟨w51.heap.size, 0, none⟩) 3 3) 3 (nums .i64 [3, ga, gb]) := own_of_row (heap_alloc_new w51 (.cells #[.int .i64 3, .int .i64 ga, .int .i64 gb] 2 (0, 0))) rfl (by omega) (by omega)
                replace HL := Lib.hid ((HL.out.below (below_alloc (Below.refl _ _) (.cells #[.int .i64 3, .int .i64 ga, .int .i64 gb] 2 (0, 0)))).addR ⟨2, 1, .slice (some ⟨w51.heap.size, 0, none⟩) 3 3, 3, nums .i64 [3, ga, gb]⟩ hO)
                clear hO
                generalize hwl : w51.alloc (.cells #[.int .i64 3, .int .i64 ga, .int .i64 gb] 2) = wl at *
                clear hwl
                generalize w51.heap.size = gq at *
                go_upto_region 56 with (go_at_call 22; ((with_reducible refine (CK1.out _ h200 _ HL.out.b).mono ?_); rintro e w52 ⟨cc, rfl, pc0, pc1, hb⟩; replace HL := Lib.hid (HL.out.below hb); clear hb))
                obtain ⟨P, hS, hP3, hP, hPb, hPn⟩ := share_all (c := cc) (a := ga) (b := gb) ⟨pc0, pc1⟩ ⟨pa0, pa1⟩ ⟨pb0, pb1⟩
                have CSI : Hid (∀ w, RdRow w (some ⟨gq, 0, none⟩) (nums .i64 [3, ga, gb]) → Calls Tryz.prog 26 #[.int .i64 cc, .slice (some ⟨gq, 0, none⟩) 3 3] w fun e w' => ∃ v, e = .returned (.tuple #[v, .int .i64 0]) ∧ w'.ownsRow w.heap.size 2 1 v 3 (nums .i64 P) ∧ Below w.heap.size w w') := fun w h => by
                  have := c_iShareCents (some ⟨gq, 0, none⟩) 3 3 [3, ga, gb] cc w h rfl (by omega)
                  rw [hS] at this
                  dsimp only at this
                  rw [hP3] at this
                  exact this
                have CSS : Hid (∀ w, RdRow w (some ⟨gq, 0, none⟩) (nums .i64 [3, ga, gb]) → Calls Tryz.prog 27 #[.int .i64 cc, .slice (some ⟨gq, 0, none⟩) 3 3] w fun e w' => ∃ v, e = .returned (.tuple #[v, .int .i64 0]) ∧ w'.ownsRow w.heap.size 2 1 v 3 (nums .i64 P) ∧ Below w.heap.size w w') := fun w h => by
                  have := c_sShareCents (some ⟨gq, 0, none⟩) 3 3 [3, ga, gb] cc w h rfl (by omega) (fun j => by
                    rcases (show j = 0 ∨ j = 1 ∨ j = 2 ∨ 3 ≤ j by omega) with rfl | rfl | rfl | hj
                    · show -9223372036854775808 ≤ (3 : Int) ∧ (3 : Int) ≤ 9223372036854775807; omega
                    · show -9223372036854775808 ≤ ga ∧ ga ≤ 9223372036854775807; omega
                    · show -9223372036854775808 ≤ gb ∧ gb ≤ 9223372036854775807; omega
                    · have : gi [3, ga, gb] j = 0 := by simp [gi, List.getD_eq_getElem?_getD, List.getElem?_eq_none (show [3, ga, gb].length ≤ j from hj)]
                      rw [this]; omega)
                  rw [hS] at this
                  dsimp only at this
                  rw [hP3] at this
                  exact this
                clear hS
                go_upto_region 57 with (first
                  | (go_at_call 26; ((with_reducible refine (CSI.out _ (HL.out.i64 (A := some ⟨gq, 0, none⟩) (n := 3) (c := 3) (by simp only [List.mem_cons, true_or, or_true]))).mono ?_); rintro e w53 ⟨v47, rfl, hO, hb⟩; replace hO := own_mono hO HL.out.b.size; replace HL := Lib.hid ((HL.out.below hb).addR ⟨2, 1, v47, 3, nums .i64 P⟩ hO); clear hO hb)))
                go_upto_region 58 with (first
                  | (go_at_call 27; ((with_reducible refine (CSS.out _ (HL.out.i64 (A := some ⟨gq, 0, none⟩) (n := 3) (c := 3) (by simp only [List.mem_cons, true_or, or_true]))).mono ?_); rintro e w54 ⟨v49, rfl, hO, hb⟩; replace hO := own_mono hO HL.out.b.size; replace HL := Lib.hid ((HL.out.below hb).addR ⟨2, 1, v49, 3, nums .i64 P⟩ hO); clear hO hb)))
                obtain ⟨A49, c49, rfl, hA49⟩ := own_form (HL.out.row (t := 2) (s := 1) (v := v49) (n := 3) (xs := nums .i64 P) (by simp only [List.mem_cons, true_or, or_true]))
                obtain ⟨g49, rfl, -⟩ := hA49 (by omega)
                have CSP : Hid (∀ w, RdRow w (some ⟨g49, 0, none⟩) (nums .i64 P) → Calls Tryz.prog 29 #[.slice (some ⟨g49, 0, none⟩) 3 c49] w fun e w' => e = .returned (.int .i64 cc) ∧ w = w') := fun w h => by
                  have := c_sumOf (some ⟨g49, 0, none⟩) 3 c49 P w h hP3 (by omega) (fun k hk => by
                    have b0 := hPb 0 (by omega)
                    have b1 := hPb 1 (by omega)
                    have b2 := hPb 2 (by omega)
                    rcases (show k = 0 ∨ k = 1 ∨ k = 2 ∨ k = 3 by omega) with rfl | rfl | rfl | rfl <;> simp only [sumZ] <;> omega)
                  rw [hP] at this
                  exact this
                have CSG : Hid (∀ w, RdRow w (some ⟨gq, 0, none⟩) (nums .i64 [3, ga, gb]) → Calls Tryz.prog 29 #[.slice (some ⟨gq, 0, none⟩) 3 3] w fun e w' => e = .returned (.int .i64 (3 + ga + gb)) ∧ w = w') := fun w h => by
                  have hs : sumZ [3, ga, gb] 3 = 3 + ga + gb := by simp [sumZ, gi]
                  have := c_sumOf (some ⟨gq, 0, none⟩) 3 3 [3, ga, gb] w h rfl (by omega) (fun k hk => by
                    rcases (show k = 0 ∨ k = 1 ∨ k = 2 ∨ k = 3 by omega) with rfl | rfl | rfl | rfl <;> simp [sumZ, gi] <;> omega)
                  rw [hs] at this
                  exact this
                have h3n : (3 : Nat) ≤ 1048576 := by omega
                have HPB := Lib.hid hPb
                have HPN := Lib.hid hPn
                clear hA49 CSI CSS hPb hPn hP
                go_upto_region 60 with (first
                  | (go_at_call 28; ((with_reducible refine (c_sameNumbers v47 (.slice (some ⟨g49, 0, none⟩) 3 c49) W.heap.size W.heap.size 3 P _ (HL.out.row (by simp only [List.mem_cons, true_or, or_true])) (HL.out.row (by simp only [List.mem_cons, true_or, or_true])) h3n).mono ?_); rintro e w55 ⟨rfl, hb⟩; replace HL := Lib.hid (HL.out.below hb); clear hb))
                  | (go_at_call 29; ((with_reducible refine (CSP.out _ (HL.out.i64 (A := some ⟨g49, 0, none⟩) (n := 3) (c := c49) (by simp only [List.mem_cons, true_or, or_true]))).mono ?_); rintro e w56 ⟨rfl, rfl⟩)))
                go_upto_region 61 with (first
                  | (go_at_call 29; ((with_reducible refine (CSG.out _ (HL.out.i64 (A := some ⟨gq, 0, none⟩) (n := 3) (c := 3) (by simp only [List.mem_cons, true_or, or_true]))).mono ?_); rintro e w57 ⟨rfl, rfl⟩)))
                clear CSP CSG
                obtain ⟨T, hT⟩ : ∃ T, 3 + ga + gb = T := ⟨_, rfl⟩
                rw [hT] at HPN
                have hT1 : 3 ≤ T ∧ T ≤ 19 := by omega
                simp only [hT]
                clear hT
                go_wp2
                go_loopw [52] (fun iv wr => ∃ k : Nat, k ≤ 3 ∧ iv = .int .i64 (k : Int) ∧ Hid (ML W [] [⟨2, 1, .slice (some ⟨g49, 0, none⟩) 3 c49, 3, nums .i64 P⟩, ⟨2, 1, v47, 3, nums .i64 P⟩, ⟨2, 1, .slice (some ⟨gq, 0, none⟩) 3 3, 3, nums .i64 [3, ga, gb]⟩] wr)) (fun i _ => 3 - (intOf i).toNat)
                case atStart => exact ⟨0, by omega, rfl, HL⟩
                case round => as_aux_lemma =>
                  clear HL
                  obtain ⟨k, hk, rfl, HL⟩ := hrel
                  by_cases hk3 : k < 3
                  · as_aux_lemma =>
                    have e1 : decide ((k : Int) < 3) = true := by simp; omega
                    have k0 : (0 : Int) ≤ (k : Int) := by omega
                    have k1 : (k : Int) < 3 := by omega
                    have x0 := (own_get (HL.out.row (t := 2) (s := 1) (v := .slice (some ⟨g49, 0, none⟩) 3 c49) (n := 3) (xs := nums .i64 P) (by simp only [List.mem_cons, true_or, or_true])) (nums_get (k := .i64) (zs := P) (j := k) (by rw [hP3]; exact hk3))).1
                    have x1 := (own_get (HL.out.row (t := 2) (s := 1) (v := .slice (some ⟨gq, 0, none⟩) 3 3) (n := 3) (xs := nums .i64 [3, ga, gb]) (by simp only [List.mem_cons, true_or, or_true])) (nums_get (k := .i64) (zs := [3, ga, gb]) (j := k) hk3)).1
                    obtain ⟨b0, b1⟩ := HPB.out k hk3
                    obtain ⟨n0, n1⟩ := HPN.out k hk3
                    have gb0 : 0 ≤ gi [3, ga, gb] k ∧ gi [3, ga, gb] k ≤ 9 := by
                      rcases (show k = 0 ∨ k = 1 ∨ k = 2 by omega) with rfl | rfl | rfl
                      · show (0 : Int) ≤ 3 ∧ (3 : Int) ≤ 9; omega
                      · show 0 ≤ ga ∧ ga ≤ 9; omega
                      · show 0 ≤ gb ∧ gb ≤ 9; omega
                    generalize gi P k = pk at *
                    generalize gi [3, ga, gb] k = gk at *
                    have m0 : 0 ≤ pk * T := Int.mul_nonneg b0 (by omega)
                    have m1 : pk * T ≤ 1000100 * 19 := Int.mul_le_mul b1 hT1.2 (by omega) (by omega)
                    have m2 : 0 ≤ cc * gk := Int.mul_nonneg pc0 gb0.1
                    have m3 : cc * gk ≤ 200 * 9 := Int.mul_le_mul (by omega) gb0.2 gb0.1 (by omega)
                    have hw1 : IntKind.i64.wrap (pk * T) = pk * T := IntWalk.i64_in _ (by omega)
                    have hw2 : IntKind.i64.wrap (cc * gk) = cc * gk := IntWalk.i64_in _ (by omega)
                    have hw3 : IntKind.i64.wrap (pk * T - cc * gk) = pk * T - cc * gk := IntWalk.i64_in _ (by omega)
                    have hw4 : IntKind.i64.wrap (-T) = -T := IntWalk.i64_in _ (by omega)
                    have q1 : decide (T ≤ pk * T - cc * gk) = false := by simp only [decide_eq_false_iff_not]; omega
                    have q2 : decide (pk * T - cc * gk ≤ -T) = false := by simp only [decide_eq_false_iff_not]; omega
                    clear m0 m1 m2 m3 n0 n1 b0 b1 gb0
                    go_wp2
                    go_quiet (fail)
                    go_wp2
                    go_roundw
                    case rel => exact ⟨k + 1, by omega, by go_num, HL.out.drew _⟩
                    case measure => simp [intOf]; omega
                  · as_aux_lemma =>
                    obtain rfl : k = 3 := by omega
                    have e1 : decide (((3 : Nat) : Int) < 3) = false := by simp
                    go_wp2
                    go_ret
                    exact ⟨rfl, HL.out.b⟩
    · have d1 : decide ((4096 : Int) < (a1.length : Int)) = true := by simp; omega
      have CB1 := Lib.hid (fun w => d1 ▸ c_f6big A1 a1.length cap1 w)
      clear d0 d1
      go_enter Tryz.func3, Tryz.ntmps3
      go_wp2_with (first
        | (go_at_call 4; ((with_reducible refine (CB0.out _).mono ?_); rintro e w1 ⟨rfl, rfl⟩))
        | (go_at_call 4; ((with_reducible refine (CB1.out _).mono ?_); rintro e w1 ⟨rfl, rfl⟩)))
      go_ret
      exact ⟨rfl, Below.refl _ _⟩
  · have d0 : decide ((4096 : Int) < (a0.length : Int)) = true := by simp; omega
    have CB0 := Lib.hid (fun w => d0 ▸ c_f6big A0 a0.length cap0 w)
    clear d0
    go_enter Tryz.func3, Tryz.ntmps3
    go_wp2_with (go_at_call 4; ((with_reducible refine (CB0.out _).mono ?_); rintro e w1 ⟨rfl, rfl⟩))
    go_ret
    exact ⟨rfl, Below.refl _ _⟩
end Go.Proofs.YtjhifpidbobmaaaGreatDoor
