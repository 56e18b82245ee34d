/- A cloth behind several washes. -/
import Derived.Test.YtdmcemhckalhkaaAsked
import Derived.Test.YtdmcemhckalhkaaGentle
import Derived.Test.YtdmcemhckalhkaaAreI64
import Derived.Test.YtdmcemhckalhkaaWashOnce
import Derived.Test.YtdmcemhckalhkaaWashBy
import Derived.StillTailTactics
namespace Go.Proofs.Ytdmcemhckalhkaa
open Go.RowKit
set_option linter.unusedVariables false
set_option linter.unusedSimpArgs false
set_option maxRecDepth 100000

structure Cl where
  a : Int
  b : Int
  c : Int
  d : Int
  e : Int
def Cl.cells (x : Cl) : Array Value := #[.int .i16 x.a, .int .i16 x.b, .int .i8 x.c, .int .i8 x.d, .int .i8 x.e]
structure Cl.Ok (x : Cl) : Prop where
  a : 1 ≤ x.a ∧ x.a ≤ 1000
  b : 1 ≤ x.b ∧ x.b ≤ 1000
  c : 0 ≤ x.c ∧ x.c ≤ 9
  d : 0 ≤ x.d ∧ x.d ≤ 9
  e : 0 ≤ x.e ∧ x.e ≤ 9
def washC (x : Cl) (p q r : Int) : Cl := ⟨sideV x.a (feltsV x.d x.e p q), sideV x.b (feltsV x.d x.e p q), max 0 (x.c - r), x.d + feltsV x.d x.e p q, x.e⟩
theorem washC_ok {x : Cl} {p q r : Int} (h : x.Ok) (hp : 0 ≤ p ∧ p ≤ 9) (hq : 0 ≤ q ∧ q ≤ 9) (hr : 0 ≤ r ∧ r ≤ 9) : (washC x p q r).Ok := by
  obtain ⟨y0, y1, y2⟩ := feltsV_bd h.d h.e hp hq
  have ha := sideV_bd h.a.1 h.a.2 y0 y1
  have hb := sideV_bd h.b.1 h.b.2 y0 y1
  have hc := h.c
  have hd := h.d
  refine ⟨ha.2.2, hb.2.2, ?_, ?_, h.e⟩
  · show 0 ≤ max 0 (x.c - r) ∧ max 0 (x.c - r) ≤ 9; omega
  · show 0 ≤ x.d + feltsV x.d x.e p q ∧ x.d + feltsV x.d x.e p q ≤ 9; omega
def washN (p q r : Nat → Int) (zs : List Int) (x : Cl) : Nat → Cl
  | 0 => x
  | k + 1 => washC (washN p q r zs x k) (p (gi zs k).toNat) (q (gi zs k).toNat) (r (gi zs k).toNat)
theorem washN_ok {p q r : Nat → Int} {zs : List Int} {x : Cl} {n m : Nat} (h : x.Ok) (hg : ∀ j, j < n → (0 ≤ p j ∧ p j ≤ 9) ∧ (0 ≤ q j ∧ q j ≤ 9) ∧ (0 ≤ r j ∧ r j ≤ 9)) (hz : ∀ j, j < m → inB (gi zs j) 0 ((n : Int) - 1) = true) : ∀ k, k ≤ m → (washN p q r zs x k).Ok
  | 0, _ => h
  | k + 1, hk => by
    have h1 := hz k (by omega)
    simp only [inB, Bool.and_eq_true, decide_eq_true_eq] at h1
    obtain ⟨g1, g2, g3⟩ := hg (gi zs k).toNat (by omega)
    exact washC_ok (washN_ok h hg hz k (by omega)) g1 g2 g3
def zeroC : Cl := ⟨0, 0, 0, 0, 0⟩
def codeAll (a b c d e : Int) (n : Nat) (p q r : Nat → Int) (zs : List Int) : Int :=
  if askedF a b c d e n p q r = 0 then (if zs.length ≤ 20 then (if allB zs.length (fun j => inB (gi zs j) 0 ((n : Int) - 1)) = true then 0 else 2) else 3) else askedF a b c d e n p q r
def washAllF (a b c d e : Int) (n : Nat) (p q r : Nat → Int) (zs : List Int) : Cl × Int :=
  if codeAll a b c d e n p q r zs = 0 then (washN p q r zs ⟨a, b, c, d, e⟩ zs.length, 0) else (zeroC, codeAll a b c d e n p q r zs)
section
variable (a b c d e : Int) (n cap : Nat) (p q r : Nat → Int) (B : Option Addr) (m cap2 : Nat) (zs : List Int) (w : World)
set_option maxHeartbeats 4000000 in
theorem c_sWashAll (gb : Nat) (ha : -32768 ≤ a ∧ a ≤ 32767) (hb : -32768 ≤ b ∧ b ≤ 32767) (h : ProgsAt w (some ⟨gb, 0, none⟩) n p q r) (hn : n ≤ 1048576) (hr : RdRow w B (nums .i64 zs)) (hl : zs.length = m) (hm : m ≤ 1048576) :
    Calls Try.prog 9 #[.agg #[.int .i16 a, .int .i16 b, .int .i8 c, .int .i8 d, .int .i8 e], .slice (some ⟨gb, 0, none⟩) n cap, .slice B m cap2] w fun u w' => u = .returned (.tuple #[.agg (washAllF a b c d e n p q r zs).1.cells, .int .i64 (washAllF a b c d e n p q r zs).2]) ∧ Below w.heap.size w w' := by
  have HB0 : Hid (Below w.heap.size w ((w.alloc (.cells #[.int .i16 a, .int .i16 b, .int .i8 c, .int .i8 d, .int .i8 e] 27 (0, 0))).alloc (.cells #[.int .i16 0, .int .i16 0, .int .i8 0, .int .i8 0, .int .i8 0] 27 (0, 0)))) := below_alloc (below_alloc (Below.refl _ _) _) _
  have HC := Lib.hid (blk_alloc (heap_alloc_new w (.cells #[.int .i16 a, .int .i16 b, .int .i8 c, .int .i8 d, .int .i8 e] 27 (0, 0))) (.cells #[.int .i16 0, .int .i16 0, .int .i8 0, .int .i8 0, .int .i8 0] 27 (0, 0)))
  have hR := heap_alloc_new (w.alloc (.cells #[.int .i16 a, .int .i16 b, .int .i8 c, .int .i8 d, .int .i8 e] 27 (0, 0))) (.cells #[.int .i16 0, .int .i16 0, .int .i8 0, .int .i8 0, .int .i8 0] 27 (0, 0))
  rw [World.size_alloc] at hR
  have HR := Lib.hid hR
  have HI : Hid ((Try.prog.info? 27).map (·.size) = some 5) := by show (Try.prog.info? 27).map (·.size) = some 5; kernel_rfl
  have H0 := Lib.hid h
  have H := Lib.hid (h.below HB0.out)
  have HZ := Lib.hid (RdRow.below hr HB0.out)
  have HZ0 := Lib.hid hr
  have HL := Lib.hid hl
  have ca := c_l06Asked w.heap.size gb a b c d e n cap p q r _ (clothAt_row HC.out) ha hb H.out hn
  clear hR hr
  by_cases hz : askedF a b c d e n p q r = 0
  · obtain ⟨o1, o2, h6⟩ := askedF_ok hz
    rw [hz] at ca
    have CA := Lib.hid ca
    have E : Hid (codeAll a b c d e n p q r zs = if zs.length ≤ 20 then (if allB zs.length (fun j => inB (gi zs j) 0 ((n : Int) - 1)) = true then 0 else 2) else 3) := by rw [Hid, codeAll, if_pos hz]
    have HOKC : Hid ((⟨a, b, c, d, e⟩ : Cl).Ok) := by obtain ⟨q1, q2, q3, q4, q5⟩ := okCloth_all o1; exact ⟨q1, q2, q3, q4, q5⟩
    have HOK : Hid (∀ j, j < n → (0 ≤ p j ∧ p j ≤ 9) ∧ (0 ≤ q j ∧ q j ≤ 9) ∧ (0 ≤ r j ∧ r j ≤ 9)) := fun j hj => okProgram_all (o2 j hj)
    clear ca h hz o1 o2
    by_cases hm20 : m ≤ 20
    · have d20 : decide ((20 : Int) < (m : Int)) = false := by simp; omega
      go_enter Try.func9, Try.ntmps9
      go_wp2_with (go_at_call 37; ((with_reducible refine CA.out.mono ?_); rintro u w1 ⟨rfl, rfl⟩))
      go_loop [9, 8] (fun i v => ∃ k : Nat, k ≤ m ∧ i = .int .i64 k ∧ ((v = .int .i64 0 ∧ Hid (allB k (fun j => inB (gi zs j) 0 ((n : Int) - 1)) = true)) ∨ (v = .int .i64 2 ∧ 0 < k ∧ Hid (allB m (fun j => inB (gi zs j) 0 ((n : Int) - 1)) = false)))) (fun i _ => m - (intOf i).toNat)
      case atStart => exact ⟨0, by omega, rfl, .inl ⟨rfl, rfl⟩⟩
      case round =>
        obtain ⟨k, hk, rfl, hv⟩ := hrel
        rcases hv with ⟨rfl, hI⟩ | ⟨rfl, hk0, hI⟩
        · by_cases hlt : k < m
          · have d1 : decide ((k : Int) < (m : Int)) = true := by simp; omega
            have k0 : (0 : Int) ≤ (k : Int) := by omega
            have k1 : (k : Int) < (m : Int) := by omega
            obtain ⟨ad, rfl, c0⟩ := HZ.out k _ (nums_get (by rw [HL.out]; exact hlt))
            have w1' : IntKind.i64.wrap ((n : Int) - 1) = (n : Int) - 1 := IntWalk.i64_in _ (by omega)
            cases q2 : inB (gi zs k) 0 ((n : Int) - 1)
            · have E2 := Lib.hid (allB_stop (p := fun j => inB (gi zs j) 0 ((n : Int) - 1)) (k := k) (n := m) q2 hlt)
              have q2' := Lib.hid q2
              go_wp2_with (go_at_call 38; ((with_reducible refine (c_l00In _ _ _ _).mono ?_); rintro e w1 ⟨rfl, rfl⟩))
              go_round
              case rel => exact ⟨k + 1, by omega, by go_num, .inr ⟨rfl, by omega, E2⟩⟩
              case measure => simp [intOf]; omega
            · have E2 : Hid (allB (k + 1) (fun j => inB (gi zs j) 0 ((n : Int) - 1)) = true) := by rw [Hid, allB, hI.out, q2]; rfl
              go_wp2_with (go_at_call 38; ((with_reducible refine (c_l00In _ _ _ _).mono ?_); rintro e w1 ⟨rfl, rfl⟩))
              go_round
              case rel => exact ⟨k + 1, by omega, by go_num, .inl ⟨rfl, E2⟩⟩
              case measure => simp [intOf]; omega
          · obtain hkm : k = m := by omega
            subst hkm
            have d1 : decide ((k : Int) < (k : Int)) = false := by simp
            have E3 : Hid (washAllF a b c d e n p q r zs = (washN p q r zs ⟨a, b, c, d, e⟩ k, 0)) := by
              have : codeAll a b c d e n p q r zs = 0 := by rw [E.out, if_pos (by rw [HL.out]; exact hm20), if_pos (by rw [HL.out]; exact hI.out)]
              rw [Hid, washAllF, if_pos this, HL.out]
            have HWK := Lib.hid (fun j (hj : j ≤ k) => washN_ok HOKC.out HOK.out (allB_get hI.out) j hj)
            have HIN := Lib.hid (allB_get hI.out)
            clear E CA ha hb
            go_wp2
            go_loopw [10] (fun i wr => ∃ k1 : Nat, k1 ≤ k ∧ i = .int .i64 k1 ∧ Hid (wr.heap[w.heap.size]? = some (.cells (washN p q r zs ⟨a, b, c, d, e⟩ k1).cells 27 (0, 0))) ∧ Hid (wr.heap[w.heap.size + 1]? = some (.cells #[.int .i16 0, .int .i16 0, .int .i8 0, .int .i8 0, .int .i8 0] 27 (0, 0))) ∧ Hid (Below w.heap.size w wr)) (fun i _ => k - (intOf i).toNat)
            case atStart => exact ⟨0, by omega, rfl, HC, HR, HB0⟩
            case round =>
              obtain ⟨k1, hk1, rfl, hC, hR, hB⟩ := hrel
              by_cases hlt1 : k1 < k
              · have d2 : decide ((k1 : Int) < (k : Int)) = true := by simp; omega
                have l0 : (0 : Int) ≤ (k1 : Int) := by omega
                have l1 : (k1 : Int) < (k : Int) := by omega
                obtain ⟨ad, rfl, c0⟩ := (RdRow.below HZ0.out hB.out) k1 _ (nums_get (by rw [HL.out]; exact hlt1))
                have hin := HIN.out k1 hlt1
                simp only [inB, Bool.and_eq_true, decide_eq_true_eq] at hin
                have HX : Hid (washN p q r zs ⟨a, b, c, d, e⟩ (k1 + 1) = washC (washN p q r zs ⟨a, b, c, d, e⟩ k1) (p (gi zs k1).toNat) (q (gi zs k1).toNat) (r (gi zs k1).toNat)) := rfl
                have HO1 := HWK.out k1 (by omega)
                obtain ⟨j, hj⟩ : ∃ j : Nat, gi zs k1 = (j : Int) := ⟨(gi zs k1).toNat, by omega⟩
                have hjn : j < n := by omega
                obtain ⟨g1, g2, g3⟩ := HOK.out j hjn
                have hpa := progAt_of (H0.out.below hB.out) hjn
                rw [hj, Int.toNat_natCast] at HX
                rw [hj] at c0 hin
                generalize washN p q r zs ⟨a, b, c, d, e⟩ k1 = x at *
                obtain ⟨x0, x1, x2, x3, x4⟩ := x
                simp only [Cl.cells] at hC
                have cw := fun (w1 : World) (x1 : ProgAt w1 gb (j * 3) (p j) (q j) (r j)) (x2 : gb < w1.heap.size) => Lib.hid (c_l06Washed gb (j * 3) _ _ _ _ _ (p j) (q j) (r j) w1 x1 x2 HO1.a.1 HO1.a.2 HO1.b.1 HO1.b.2 HO1.c HO1.d HO1.e g1 g2 g3)
                simp only at cw
                have HPA := Lib.hid hpa
                have hgl := World.block_lt_of_cell? wr _ hpa.1
                have y0 := cell_of_row wr w.heap.size 0 _ _ _ hC.out
                have y1 := cell_of_row wr w.heap.size 1 _ _ _ hC.out
                have y2 := cell_of_row wr w.heap.size 2 _ _ _ hC.out
                have y3 := cell_of_row wr w.heap.size 3 _ _ _ hC.out
                have y4 := cell_of_row wr w.heap.size 4 _ _ _ hC.out
                have j0 : (0 : Int) ≤ (j : Int) := by omega
                have j1 : (j : Int) < (n : Int) := by omega
                clear hpa HO1 g1 g2 g3 hin
                go_wp2
                go_still_tail 7, (by kernel_rfl)
                change wpList _ _ _ _ _ wr.drew
                have hC1 : Hid (wr.drew.heap[w.heap.size]? = some (.cells #[.int .i16 x0, .int .i16 x1, .int .i8 x2, .int .i8 x3, .int .i8 x4] 27 (0, 0))) := hC.out
                have hR1 : Hid (wr.drew.heap[w.heap.size + 1]? = some (.cells #[.int .i16 0, .int .i16 0, .int .i8 0, .int .i8 0, .int .i8 0] 27 (0, 0))) := hR.out
                have hB1 : Hid (Below w.heap.size w wr.drew) := below_drew hB.out
                have hgl1 : gb < wr.drew.heap.size := hgl
                have HPA1 : Hid (ProgAt wr.drew gb (j * 3) (p j) (q j) (r j)) := HPA.out
                have hzz : w.heap.size < wr.drew.heap.size := blk_lt hC1.out
                clear y0 y1 y2 y3 y4 c0 hC hR hB hgl HPA
                generalize wr.drew = wd at *
                go_wp2_with (first
                  | (go_at_call 39; ((with_reducible refine (cw _ HPA1.out hgl1).out.mono ?_); rintro u w1 ⟨rfl, hb⟩; have hC2 := Lib.hid (blk_below hC1.out hb); have hR2 := Lib.hid (blk_below hR1.out hb); have hB2 := Lib.hid (below_then hB1.out hb); clear hb))
                  | (refine ev_store_row rfl 27 (.tmp 3) (.tmp 56) rfl (w.heap.size) #[.int .i16 (sideV x0 (feltsV x3 x4 (p j) (q j))), .int .i16 (sideV x1 (feltsV x3 x4 (p j) (q j))), .int .i8 (max 0 (x2 - r j)), .int .i8 (x3 + feltsV x3 x4 (p j) (q j)), .int .i8 x4] rfl rfl 27 #[.int .i16 x0, .int .i16 x1, .int .i8 x2, .int .i8 x3, .int .i8 x4] ?_ HI.out (Eq.refl (5 : Nat)) one5 ?_; (with_reducible exact hC2.out); intro w6 hblk ht; have hC3 := Lib.hid hblk; clear hblk))
                go_roundw
                case rel => exact ⟨k1 + 1, by omega, by go_num, by rw [HX.out]; exact hC3, (blk_tou hR2.out ht (by omega)), (hB2.out.trans (ht.below (Nat.le_refl _)))⟩
                case measure => simp [intOf]; omega
              · obtain hkl : k1 = k := by omega
                subst hkl
                have d2 : decide ((k1 : Int) < (k1 : Int)) = false := by simp
                generalize washN p q r zs ⟨a, b, c, d, e⟩ k1 = x at *
                obtain ⟨x0, x1, x2, x3, x4⟩ := x
                simp only [Cl.cells] at hC
                go_wp2_with (first
                  | (refine wpList_load_row rfl 27 (.tmp 3) rfl (w.heap.size) rfl 27 #[.int .i16 x0, .int .i16 x1, .int .i8 x2, .int .i8 x3, .int .i8 x4] (0, 0) _ ?_ Try.underlying27 rfl HI.out ?_; (with_reducible exact hC.out))
                  | (refine ev_store_row rfl 27 (.tmp 6) (.tmp 57) rfl (w.heap.size + 1) #[.int .i16 x0, .int .i16 x1, .int .i8 x2, .int .i8 x3, .int .i8 x4] rfl rfl 27 #[.int .i16 0, .int .i16 0, .int .i8 0, .int .i8 0, .int .i8 0] ?_ HI.out (Eq.refl (5 : Nat)) one5 ?_; (with_reducible exact hR.out); intro w6 hblk ht; have HRZ := Lib.hid hblk; clear hblk))
                refine bodyPost_ret (v := .tuple #[.agg #[.int .i16 x0, .int .i16 x1, .int .i8 x2, .int .i8 x3, .int .i8 x4], .int .i64 0]) (results_ct rfl _ _ (w.heap.size + 1) 27 #[.int .i16 x0, .int .i16 x1, .int .i8 x2, .int .i8 x3, .int .i8 x4] (0, 0) _ rfl (by with_reducible exact HRZ.out) Try.underlying27 rfl HI.out rfl) rfl ⟨by rw [E3.out]; rfl, Below.trans hB.out (ht.below (by omega))⟩
        · have d2 : ((2 : Int) == 0) = false := by decide
          have E3 : Hid (washAllF a b c d e n p q r zs = (zeroC, 2)) := by
            have : codeAll a b c d e n p q r zs = 2 := by rw [E.out, if_pos (by rw [HL.out]; exact hm20), HL.out, hI.out]; rfl
            rw [Hid, washAllF, this]; rfl
          have HRX := HR
          by_cases hlt : k < m
          · have d1 : decide ((k : Int) < (m : Int)) = true := by simp; omega
            go_wp2_with (refine ev_store_row rfl 27 (.tmp 6) (.tmp 41) rfl (w.heap.size + 1) #[.int .i16 0, .int .i16 0, .int .i8 0, .int .i8 0, .int .i8 0] rfl rfl 27 #[.int .i16 0, .int .i16 0, .int .i8 0, .int .i8 0, .int .i8 0] ?_ HI.out (Eq.refl (5 : Nat)) one5 ?_; (with_reducible exact HRX.out); intro w6 hblk ht; have HRZ := Lib.hid hblk; clear hblk)
            refine bodyPost_ret (v := .tuple #[.agg #[.int .i16 0, .int .i16 0, .int .i8 0, .int .i8 0, .int .i8 0], .int .i64 2]) (results_ct rfl _ _ (w.heap.size + 1) 27 #[.int .i16 0, .int .i16 0, .int .i8 0, .int .i8 0, .int .i8 0] (0, 0) _ rfl (by with_reducible exact HRZ.out) Try.underlying27 rfl HI.out rfl) rfl ⟨by rw [E3.out]; rfl, Below.trans HB0.out (ht.below (by omega))⟩
          · have d1 : decide ((k : Int) < (m : Int)) = false := by simp; omega
            go_wp2_with (refine ev_store_row rfl 27 (.tmp 6) (.tmp 41) rfl (w.heap.size + 1) #[.int .i16 0, .int .i16 0, .int .i8 0, .int .i8 0, .int .i8 0] rfl rfl 27 #[.int .i16 0, .int .i16 0, .int .i8 0, .int .i8 0, .int .i8 0] ?_ HI.out (Eq.refl (5 : Nat)) one5 ?_; (with_reducible exact HRX.out); intro w6 hblk ht; have HRZ := Lib.hid hblk; clear hblk)
            refine bodyPost_ret (v := .tuple #[.agg #[.int .i16 0, .int .i16 0, .int .i8 0, .int .i8 0, .int .i8 0], .int .i64 2]) (results_ct rfl _ _ (w.heap.size + 1) 27 #[.int .i16 0, .int .i16 0, .int .i8 0, .int .i8 0, .int .i8 0] (0, 0) _ rfl (by with_reducible exact HRZ.out) Try.underlying27 rfl HI.out rfl) rfl ⟨by rw [E3.out]; rfl, Below.trans HB0.out (ht.below (by omega))⟩
    · have d20 : decide ((20 : Int) < (m : Int)) = true := by simp; omega
      have E3 : Hid (washAllF a b c d e n p q r zs = (zeroC, 3)) := by
        have : codeAll a b c d e n p q r zs = 3 := by rw [E.out, if_neg (by rw [HL.out]; exact hm20)]
        rw [Hid, washAllF, this]; rfl
      have HRX := HR
      have d1 : decide ((0 : Int) < (m : Int)) = true := by simp; omega
      go_enter Try.func9, Try.ntmps9
      go_wp2_with (go_at_call 37; ((with_reducible refine CA.out.mono ?_); rintro u w1 ⟨rfl, rfl⟩))
      go_loop [9, 8] (fun i v => i = .int .i64 0 ∧ v = .int .i64 3) (fun _ _ => 0)
      case atStart => exact ⟨rfl, rfl⟩
      case round =>
        obtain ⟨rfl, rfl⟩ := hrel
        go_wp2_with (refine ev_store_row rfl 27 (.tmp 6) (.tmp 41) rfl (w.heap.size + 1) #[.int .i16 0, .int .i16 0, .int .i8 0, .int .i8 0, .int .i8 0] rfl rfl 27 #[.int .i16 0, .int .i16 0, .int .i8 0, .int .i8 0, .int .i8 0] ?_ HI.out (Eq.refl (5 : Nat)) one5 ?_; (with_reducible exact HRX.out); intro w6 hblk ht; have HRZ := Lib.hid hblk; clear hblk)
        refine bodyPost_ret (v := .tuple #[.agg #[.int .i16 0, .int .i16 0, .int .i8 0, .int .i8 0, .int .i8 0], .int .i64 3]) (results_ct rfl _ _ (w.heap.size + 1) 27 #[.int .i16 0, .int .i16 0, .int .i8 0, .int .i8 0, .int .i8 0] (0, 0) _ rfl (by with_reducible exact HRZ.out) Try.underlying27 rfl HI.out rfl) rfl ⟨by rw [E3.out]; rfl, Below.trans HB0.out (ht.below (by omega))⟩
  · have dz := askedF_no hz
    have dz' : (askedF a b c d e n p q r == 0) = false := by simpa using hz
    have E3 : Hid (washAllF a b c d e n p q r zs = (zeroC, askedF a b c d e n p q r)) := by
      have : codeAll a b c d e n p q r zs = askedF a b c d e n p q r := by rw [codeAll, if_neg hz]
      rw [Hid, washAllF, this, if_neg hz]
    have CA := Lib.hid ca
    have HRX := HR
    clear ca h
    generalize askedF a b c d e n p q r = kc at *
    go_enter Try.func9, Try.ntmps9
    go_wp2_with (go_at_call 37; ((with_reducible refine CA.out.mono ?_); rintro u w1 ⟨rfl, rfl⟩))
    go_loop [9, 8] (fun i v => i = .int .i64 0 ∧ v = .int .i64 kc) (fun _ _ => 0)
    case atStart => exact ⟨rfl, rfl⟩
    case round =>
      obtain ⟨rfl, rfl⟩ := hrel
      by_cases hlt : 0 < m
      · have d1 : decide ((0 : Int) < (m : Int)) = true := by simp; omega
        go_wp2_with (refine ev_store_row rfl 27 (.tmp 6) (.tmp 41) rfl (w.heap.size + 1) #[.int .i16 0, .int .i16 0, .int .i8 0, .int .i8 0, .int .i8 0] rfl rfl 27 #[.int .i16 0, .int .i16 0, .int .i8 0, .int .i8 0, .int .i8 0] ?_ HI.out (Eq.refl (5 : Nat)) one5 ?_; (with_reducible exact HRX.out); intro w6 hblk ht; have HRZ := Lib.hid hblk; clear hblk)
        refine bodyPost_ret (v := .tuple #[.agg #[.int .i16 0, .int .i16 0, .int .i8 0, .int .i8 0, .int .i8 0], .int .i64 kc]) (results_ct rfl _ _ (w.heap.size + 1) 27 #[.int .i16 0, .int .i16 0, .int .i8 0, .int .i8 0, .int .i8 0] (0, 0) _ rfl (by with_reducible exact HRZ.out) Try.underlying27 rfl HI.out rfl) rfl ⟨by rw [E3.out]; rfl, Below.trans HB0.out (ht.below (by omega))⟩
      · have d1 : decide ((0 : Int) < (m : Int)) = false := by simp; omega
        go_wp2_with (refine ev_store_row rfl 27 (.tmp 6) (.tmp 41) rfl (w.heap.size + 1) #[.int .i16 0, .int .i16 0, .int .i8 0, .int .i8 0, .int .i8 0] rfl rfl 27 #[.int .i16 0, .int .i16 0, .int .i8 0, .int .i8 0, .int .i8 0] ?_ HI.out (Eq.refl (5 : Nat)) one5 ?_; (with_reducible exact HRX.out); intro w6 hblk ht; have HRZ := Lib.hid hblk; clear hblk)
        refine bodyPost_ret (v := .tuple #[.agg #[.int .i16 0, .int .i16 0, .int .i8 0, .int .i8 0, .int .i8 0], .int .i64 kc]) (results_ct rfl _ _ (w.heap.size + 1) 27 #[.int .i16 0, .int .i16 0, .int .i8 0, .int .i8 0, .int .i8 0] (0, 0) _ rfl (by with_reducible exact HRZ.out) Try.underlying27 rfl HI.out rfl) rfl ⟨by rw [E3.out]; rfl, Below.trans HB0.out (ht.below (by omega))⟩
theorem c_lengthP (A : Option Addr) (w : World) : Calls Try.prog 35 #[.slice A n cap] w fun u w' => u = .returned (.int .i64 (n : Int)) ∧ w = w' := by
  go_enter Try.func35, Try.ntmps35
  go_wp2
  go_ret
  exact ⟨rfl, rfl⟩
theorem c_washAll1 (x : Int) (A : Option Addr) (k : Nat) (w : World) (hn : n ≤ 1048576) (hc : w.cell? ⟨k, 0, none⟩ = some (.slice A n cap)) :
    Calls Try.prog 33 #[.int .i64 x, .pointer (some ⟨k, 0, none⟩)] w fun u w' => u = .returned (.bool (inB x 0 ((n : Int) - 1))) ∧ Below w.heap.size w w' := by
  have w1' : IntKind.i64.wrap ((n : Int) - 1) = (n : Int) - 1 := IntWalk.i64_in _ (by omega)
  go_enter Try.func33, Try.ntmps33
  go_wp2_with (first
    | (go_at_call 35; ((with_reducible refine (c_lengthP _ _ _ _).mono ?_); rintro e w1 ⟨rfl, rfl⟩))
    | (go_at_call 34; ((with_reducible refine (c_within _ _ _ _).mono ?_); rintro e w1 ⟨rfl, rfl⟩)))
  go_ret
  exact ⟨rfl, Below.refl _ _⟩
set_option maxHeartbeats 4000000 in
theorem c_iWashAll (A : Option Addr) (ha : -32768 ≤ a ∧ a ≤ 32767) (hb : -32768 ≤ b ∧ b ≤ 32767) (h : ProgsAt w A n p q r) (hn : n ≤ 1048576) (hg : ∀ j, j < n → (-128 ≤ r j ∧ r j ≤ 127) ∧ (-128 ≤ p j ∧ p j ≤ 127) ∧ (-128 ≤ q j ∧ q j ≤ 127)) (hr : RdRow w B (nums .i64 zs)) (hl : zs.length = m) (hm : m ≤ 1048576) :
    Calls Try.prog 8 #[.agg #[.int .i16 a, .int .i16 b, .int .i8 c, .int .i8 d, .int .i8 e], .slice A n cap, .slice B m cap2] w fun u w' => u = .returned (.tuple #[.agg (washAllF a b c d e n p q r zs).1.cells, .int .i64 (washAllF a b c d e n p q r zs).2]) ∧ Below w.heap.size w w' := by
  have HB0 : Hid (Below w.heap.size w (((w.alloc (.cells #[.int .i16 a, .int .i16 b, .int .i8 c, .int .i8 d, .int .i8 e] 27 (0, 0))).alloc (.cells #[.slice A n cap] 29 (0, 0))).alloc (.cells #[.int .i16 0, .int .i16 0, .int .i8 0, .int .i8 0, .int .i8 0] 27 (0, 0)))) := below_alloc (below_alloc (below_alloc (Below.refl _ _) _) _) _
  have HC := Lib.hid (blk_alloc (blk_alloc (heap_alloc_new w (.cells #[.int .i16 a, .int .i16 b, .int .i8 c, .int .i8 d, .int .i8 e] 27 (0, 0))) (.cells #[.slice A n cap] 29 (0, 0))) (.cells #[.int .i16 0, .int .i16 0, .int .i8 0, .int .i8 0, .int .i8 0] 27 (0, 0)))
  have hS := blk_alloc (heap_alloc_new (w.alloc (.cells #[.int .i16 a, .int .i16 b, .int .i8 c, .int .i8 d, .int .i8 e] 27 (0, 0))) (.cells #[.slice A n cap] 29 (0, 0))) (.cells #[.int .i16 0, .int .i16 0, .int .i8 0, .int .i8 0, .int .i8 0] 27 (0, 0))
  have hR := heap_alloc_new ((w.alloc (.cells #[.int .i16 a, .int .i16 b, .int .i8 c, .int .i8 d, .int .i8 e] 27 (0, 0))).alloc (.cells #[.slice A n cap] 29 (0, 0))) (.cells #[.int .i16 0, .int .i16 0, .int .i8 0, .int .i8 0, .int .i8 0] 27 (0, 0))
  rw [World.size_alloc] at hS
  rw [World.size_alloc, World.size_alloc] at hR
  have HS := Lib.hid hS
  have HR := Lib.hid hR
  have HI : Hid ((Try.prog.info? 27).map (·.size) = some 5) := by show (Try.prog.info? 27).map (·.size) = some 5; kernel_rfl
  have H0 := Lib.hid h
  have H := Lib.hid (h.below HB0.out)
  have HZ0 := Lib.hid hr
  have HL := Lib.hid hl
  have hef : ∀ args w, (callFunc 33 args).run Try.prog w = .ok (.enter 33 args) w := enters_of Try.func33 (by kernel_rfl) rfl
  have ca := fun w h => c_washCode A a b c d e n cap p q r w ha hb h hn hg
  clear hR hS hr hg
  by_cases hz : askedF a b c d e n p q r = 0
  · obtain ⟨o1, o2, h6⟩ := askedF_ok hz
    rw [hz] at ca
    have CA := fun w h => Lib.hid (ca w h)
    have E : Hid (codeAll a b c d e n p q r zs = if zs.length ≤ 20 then (if allB zs.length (fun j => inB (gi zs j) 0 ((n : Int) - 1)) = true then 0 else 2) else 3) := by rw [Hid, codeAll, if_pos hz]
    have HOKC : Hid ((⟨a, b, c, d, e⟩ : Cl).Ok) := by obtain ⟨q1, q2, q3, q4, q5⟩ := okCloth_all o1; exact ⟨q1, q2, q3, q4, q5⟩
    have HOK : Hid (∀ j, j < n → (0 ≤ p j ∧ p j ≤ 9) ∧ (0 ≤ q j ∧ q j ≤ 9) ∧ (0 ≤ r j ∧ r j ≤ 9)) := fun j hj => okProgram_all (o2 j hj)
    clear ca h hz o1 o2
    by_cases hm20 : m ≤ 20
    · have d20 : decide ((20 : Int) < (m : Int)) = false := by simp; omega
      have CAR := fun (wq : World) (hs : wq.heap[w.heap.size + 1]? = some (.cells #[.slice A n cap] 29 (0, 0))) (hb : Below w.heap.size w wq) => Lib.hid (c_areAllI64 33 #[.pointer (some ⟨w.heap.size + 1, 0, none⟩)] hef (fun j => inB (gi zs j) 0 ((n : Int) - 1)) B m cap2 zs wq (RdRow.below HZ0.out hb) HL.out hm (fun j _ w1 hb1 => c_washAll1 n cap (gi zs j) A (w.heap.size + 1) w1 hn (cell_of_row _ _ 0 _ _ _ (blk_below hs hb1))))
      cases q2 : allB m (fun j => inB (gi zs j) 0 ((n : Int) - 1))
      · rw [q2] at CAR
        have E3 : Hid (washAllF a b c d e n p q r zs = (zeroC, 2)) := by
          have : codeAll a b c d e n p q r zs = 2 := by rw [E.out, if_pos (by rw [HL.out]; exact hm20), HL.out, q2]; rfl
          rw [Hid, washAllF, this]; rfl
        go_enter Try.func8, Try.ntmps8
        go_wp2_with (first
          | (refine wpList_load_row rfl 27 (.tmp 3) rfl (w.heap.size) rfl 27 #[.int .i16 a, .int .i16 b, .int .i8 c, .int .i8 d, .int .i8 e] (0, 0) _ ?_ Try.underlying27 rfl HI.out ?_; (with_reducible exact HC.out))
          | (go_at_call 31; ((with_reducible refine (CA _ H.out).out.mono ?_); rintro u w1 ⟨rfl, hb⟩; have HR := Lib.hid (blk_below HR.out hb); have HS := Lib.hid (blk_below HS.out hb); have HB1 := Lib.hid (below_then HB0.out hb); clear hb))
          | (go_at_call 32; ((with_reducible refine (CAR _ HS.out HB1.out).out.mono ?_); rintro u w2 ⟨rfl, hb⟩; have HRX := Lib.hid (blk_below HR.out hb); have HB2 := Lib.hid (below_then HB1.out hb); clear hb))
          | (refine ev_store_row rfl 27 (.tmp 6) (.tmp 28) rfl (w.heap.size + 1 + 1) #[.int .i16 0, .int .i16 0, .int .i8 0, .int .i8 0, .int .i8 0] rfl rfl 27 #[.int .i16 0, .int .i16 0, .int .i8 0, .int .i8 0, .int .i8 0] ?_ HI.out (Eq.refl (5 : Nat)) one5 ?_; (with_reducible exact HRX.out); intro w6 hblk ht; have HRZ := Lib.hid hblk; clear hblk))
        refine bodyPost_ret (v := .tuple #[.agg #[.int .i16 0, .int .i16 0, .int .i8 0, .int .i8 0, .int .i8 0], .int .i64 2]) (results_ct rfl _ _ (w.heap.size + 1 + 1) 27 #[.int .i16 0, .int .i16 0, .int .i8 0, .int .i8 0, .int .i8 0] (0, 0) _ rfl (by with_reducible exact HRZ.out) Try.underlying27 rfl HI.out rfl) rfl ⟨by rw [E3.out]; rfl, Below.trans HB2.out (ht.below (by omega))⟩
      · rw [q2] at CAR
        have E3 : Hid (washAllF a b c d e n p q r zs = (washN p q r zs ⟨a, b, c, d, e⟩ m, 0)) := by
          have : codeAll a b c d e n p q r zs = 0 := by rw [E.out, if_pos (by rw [HL.out]; exact hm20), if_pos (by rw [HL.out]; exact q2)]
          rw [Hid, washAllF, if_pos this, HL.out]
        have HWK := Lib.hid (fun j (hj : j ≤ m) => washN_ok HOKC.out HOK.out (allB_get q2) j hj)
        have HIN := Lib.hid (allB_get q2)
        go_enter Try.func8, Try.ntmps8
        go_wp2_with (first
          | (refine wpList_load_row rfl 27 (.tmp 3) rfl (w.heap.size) rfl 27 #[.int .i16 a, .int .i16 b, .int .i8 c, .int .i8 d, .int .i8 e] (0, 0) _ ?_ Try.underlying27 rfl HI.out ?_; (with_reducible exact HC.out))
          | (go_at_call 31; ((with_reducible refine (CA _ H.out).out.mono ?_); rintro u w1 ⟨rfl, hb⟩; have HC := Lib.hid (blk_below HC.out hb); have HR := Lib.hid (blk_below HR.out hb); have HS := Lib.hid (blk_below HS.out hb); have HB1 := Lib.hid (below_then HB0.out hb); clear hb))
          | (go_at_call 32; ((with_reducible refine (CAR _ HS.out HB1.out).out.mono ?_); rintro u w2 ⟨rfl, hb⟩; have HC := Lib.hid (blk_below HC.out hb); have HR := Lib.hid (blk_below HR.out hb); have HS := Lib.hid (blk_below HS.out hb); have HB2 := Lib.hid (below_then HB1.out hb); clear hb)))
        clear E CA ha hb q2
        go_loopw [31] (fun i wr => ∃ k1 : Nat, k1 ≤ m ∧ i = .int .i64 k1 ∧ Hid (wr.heap[w.heap.size]? = some (.cells (washN p q r zs ⟨a, b, c, d, e⟩ k1).cells 27 (0, 0))) ∧ Hid (wr.heap[w.heap.size + 1]? = some (.cells #[.slice A n cap] 29 (0, 0))) ∧ Hid (wr.heap[w.heap.size + 1 + 1]? = some (.cells #[.int .i16 0, .int .i16 0, .int .i8 0, .int .i8 0, .int .i8 0] 27 (0, 0))) ∧ Hid (Below w.heap.size w wr)) (fun i _ => m - (intOf i).toNat)
        case atStart => exact ⟨0, by omega, rfl, HC, HS, HR, HB2⟩
        case round =>
          obtain ⟨k1, hk1, rfl, hC, hS, hR, hB⟩ := hrel
          by_cases hlt1 : k1 < m
          · have d2 : decide ((k1 : Int) < (m : Int)) = true := by simp; omega
            have l0 : (0 : Int) ≤ (k1 : Int) := by omega
            have l1 : (k1 : Int) < (m : Int) := by omega
            obtain ⟨ad, rfl, c0⟩ := (RdRow.below HZ0.out hB.out) k1 _ (nums_get (by rw [HL.out]; exact hlt1))
            have hin := HIN.out k1 hlt1
            simp only [inB, Bool.and_eq_true, decide_eq_true_eq] at hin
            have HX : Hid (washN p q r zs ⟨a, b, c, d, e⟩ (k1 + 1) = washC (washN p q r zs ⟨a, b, c, d, e⟩ k1) (p (gi zs k1).toNat) (q (gi zs k1).toNat) (r (gi zs k1).toNat)) := rfl
            have HO1 := HWK.out k1 (by omega)
            obtain ⟨j, hj⟩ : ∃ j : Nat, gi zs k1 = (j : Int) := ⟨(gi zs k1).toNat, by omega⟩
            have hjn : j < n := by omega
            obtain ⟨g1, g2, g3⟩ := HOK.out j hjn
            obtain ⟨ad', rfl, p0, p1, p2⟩ := (H0.out.below hB.out).at_ j hjn
            rw [hj, Int.toNat_natCast] at HX
            rw [hj] at c0 hin
            generalize washN p q r zs ⟨a, b, c, d, e⟩ k1 = x at *
            obtain ⟨x0, x1, x2, x3, x4⟩ := x
            simp only [Cl.cells] at hC
            have cw := fun (w1 : World) => Lib.hid (c_washed _ _ _ _ _ (p j) (q j) (r j) w1 HO1.a.1 HO1.a.2 HO1.b.1 HO1.b.2 HO1.c HO1.d HO1.e g1 g2 g3)
            simp only at cw
            have y0 := cell_of_row wr w.heap.size 0 _ _ _ hC.out
            have y1 := cell_of_row wr w.heap.size 1 _ _ _ hC.out
            have y2 := cell_of_row wr w.heap.size 2 _ _ _ hC.out
            have y3 := cell_of_row wr w.heap.size 3 _ _ _ hC.out
            have y4 := cell_of_row wr w.heap.size 4 _ _ _ hC.out
            have y5 := cell_of_row wr (w.heap.size + 1) 0 _ _ _ hS.out
            have j0 : (0 : Int) ≤ (j : Int) := by omega
            have j1 : (j : Int) < (n : Int) := by omega
            clear HO1 g1 g2 g3 hin
            go_wp2
            go_still_tail 5, (by kernel_rfl)
            change wpList _ _ _ _ _ wr.drew
            have hC1 : Hid (wr.drew.heap[w.heap.size]? = some (.cells #[.int .i16 x0, .int .i16 x1, .int .i8 x2, .int .i8 x3, .int .i8 x4] 27 (0, 0))) := hC.out
            have hS1 : Hid (wr.drew.heap[w.heap.size + 1]? = some (.cells #[.slice (some ad') n cap] 29 (0, 0))) := hS.out
            have hR1 : Hid (wr.drew.heap[w.heap.size + 1 + 1]? = some (.cells #[.int .i16 0, .int .i16 0, .int .i8 0, .int .i8 0, .int .i8 0] 27 (0, 0))) := hR.out
            have hB1 : Hid (Below w.heap.size w wr.drew) := below_drew hB.out
            clear y0 y1 y2 y3 y4 y5 p0 p1 p2 c0 hC hS hR hB
            generalize wr.drew = wd at *
            go_wp2_with (first
              | (go_at_call 36; ((with_reducible refine (cw _).out.mono ?_); rintro u w1 ⟨rfl, hb⟩; have hC2 := Lib.hid (blk_below hC1.out hb); have hS2 := Lib.hid (blk_below hS1.out hb); have hR2 := Lib.hid (blk_below hR1.out hb); have hB2 := Lib.hid (below_then hB1.out hb); clear hb))
              | (refine ev_store_row rfl 27 (.tmp 3) (.tmp 40) rfl (w.heap.size) #[.int .i16 (sideV x0 (feltsV x3 x4 (p j) (q j))), .int .i16 (sideV x1 (feltsV x3 x4 (p j) (q j))), .int .i8 (max 0 (x2 - r j)), .int .i8 (x3 + feltsV x3 x4 (p j) (q j)), .int .i8 x4] rfl rfl 27 #[.int .i16 x0, .int .i16 x1, .int .i8 x2, .int .i8 x3, .int .i8 x4] ?_ HI.out (Eq.refl (5 : Nat)) one5 ?_; (with_reducible exact hC2.out); intro w6 hblk ht; have hC3 := Lib.hid hblk; clear hblk))
            go_roundw
            case rel => exact ⟨k1 + 1, by omega, by go_num, by rw [HX.out]; exact hC3, (blk_tou hS2.out ht (by omega)), (blk_tou hR2.out ht (by omega)), (hB2.out.trans (ht.below (Nat.le_refl _)))⟩
            case measure => simp [intOf]; omega
          · obtain hkl : k1 = m := by omega
            subst hkl
            have d2 : decide ((k1 : Int) < (k1 : Int)) = false := by simp
            generalize washN p q r zs ⟨a, b, c, d, e⟩ k1 = x at *
            obtain ⟨x0, x1, x2, x3, x4⟩ := x
            simp only [Cl.cells] at hC
            go_wp2_with (first
              | (refine wpList_load_row rfl 27 (.tmp 3) rfl (w.heap.size) rfl 27 #[.int .i16 x0, .int .i16 x1, .int .i8 x2, .int .i8 x3, .int .i8 x4] (0, 0) _ ?_ Try.underlying27 rfl HI.out ?_; (with_reducible exact hC.out))
              | (refine ev_store_row rfl 27 (.tmp 6) (.tmp 42) rfl (w.heap.size + 1 + 1) #[.int .i16 x0, .int .i16 x1, .int .i8 x2, .int .i8 x3, .int .i8 x4] rfl rfl 27 #[.int .i16 0, .int .i16 0, .int .i8 0, .int .i8 0, .int .i8 0] ?_ HI.out (Eq.refl (5 : Nat)) one5 ?_; (with_reducible exact hR.out); intro w6 hblk ht; have HRZ := Lib.hid hblk; clear hblk))
            refine bodyPost_ret (v := .tuple #[.agg #[.int .i16 x0, .int .i16 x1, .int .i8 x2, .int .i8 x3, .int .i8 x4], .int .i64 0]) (results_ct rfl _ _ (w.heap.size + 1 + 1) 27 #[.int .i16 x0, .int .i16 x1, .int .i8 x2, .int .i8 x3, .int .i8 x4] (0, 0) _ rfl (by with_reducible exact HRZ.out) Try.underlying27 rfl HI.out rfl) rfl ⟨by rw [E3.out]; rfl, Below.trans hB.out (ht.below (by omega))⟩
    · have d20 : decide ((20 : Int) < (m : Int)) = true := by simp; omega
      have E3 : Hid (washAllF a b c d e n p q r zs = (zeroC, 3)) := by
        have : codeAll a b c d e n p q r zs = 3 := by rw [E.out, if_neg (by rw [HL.out]; exact hm20)]
        rw [Hid, washAllF, this]; rfl
      go_enter Try.func8, Try.ntmps8
      go_wp2_with (first
        | (refine wpList_load_row rfl 27 (.tmp 3) rfl (w.heap.size) rfl 27 #[.int .i16 a, .int .i16 b, .int .i8 c, .int .i8 d, .int .i8 e] (0, 0) _ ?_ Try.underlying27 rfl HI.out ?_; (with_reducible exact HC.out))
        | (go_at_call 31; ((with_reducible refine (CA _ H.out).out.mono ?_); rintro u w1 ⟨rfl, hb⟩; have HRX := Lib.hid (blk_below HR.out hb); have HB1 := Lib.hid (below_then HB0.out hb); clear hb))
        | (refine ev_store_row rfl 27 (.tmp 6) (.tmp 22) rfl (w.heap.size + 1 + 1) #[.int .i16 0, .int .i16 0, .int .i8 0, .int .i8 0, .int .i8 0] rfl rfl 27 #[.int .i16 0, .int .i16 0, .int .i8 0, .int .i8 0, .int .i8 0] ?_ HI.out (Eq.refl (5 : Nat)) one5 ?_; (with_reducible exact HRX.out); intro w6 hblk ht; have HRZ := Lib.hid hblk; clear hblk))
      refine bodyPost_ret (v := .tuple #[.agg #[.int .i16 0, .int .i16 0, .int .i8 0, .int .i8 0, .int .i8 0], .int .i64 3]) (results_ct rfl _ _ (w.heap.size + 1 + 1) 27 #[.int .i16 0, .int .i16 0, .int .i8 0, .int .i8 0, .int .i8 0] (0, 0) _ rfl (by with_reducible exact HRZ.out) Try.underlying27 rfl HI.out rfl) rfl ⟨by rw [E3.out]; rfl, Below.trans HB1.out (ht.below (by omega))⟩
  · have dz := askedF_no hz
    have E3 : Hid (washAllF a b c d e n p q r zs = (zeroC, askedF a b c d e n p q r)) := by
      have : codeAll a b c d e n p q r zs = askedF a b c d e n p q r := by rw [codeAll, if_neg hz]
      rw [Hid, washAllF, this, if_neg hz]
    have CA := fun w h => Lib.hid (ca w h)
    clear ca h
    generalize askedF a b c d e n p q r = kc at *
    go_enter Try.func8, Try.ntmps8
    go_wp2_with (first
      | (refine wpList_load_row rfl 27 (.tmp 3) rfl (w.heap.size) rfl 27 #[.int .i16 a, .int .i16 b, .int .i8 c, .int .i8 d, .int .i8 e] (0, 0) _ ?_ Try.underlying27 rfl HI.out ?_; (with_reducible exact HC.out))
      | (go_at_call 31; ((with_reducible refine (CA _ H.out).out.mono ?_); rintro u w1 ⟨rfl, hb⟩; have HRX := Lib.hid (blk_below HR.out hb); have HB1 := Lib.hid (below_then HB0.out hb); clear hb))
      | (refine ev_store_row rfl 27 (.tmp 6) (.tmp 16) rfl (w.heap.size + 1 + 1) #[.int .i16 0, .int .i16 0, .int .i8 0, .int .i8 0, .int .i8 0] rfl rfl 27 #[.int .i16 0, .int .i16 0, .int .i8 0, .int .i8 0, .int .i8 0] ?_ HI.out (Eq.refl (5 : Nat)) one5 ?_; (with_reducible exact HRX.out); intro w6 hblk ht; have HRZ := Lib.hid hblk; clear hblk))
    refine bodyPost_ret (v := .tuple #[.agg #[.int .i16 0, .int .i16 0, .int .i8 0, .int .i8 0, .int .i8 0], .int .i64 kc]) (results_ct rfl _ _ (w.heap.size + 1 + 1) 27 #[.int .i16 0, .int .i16 0, .int .i8 0, .int .i8 0, .int .i8 0] (0, 0) _ rfl (by with_reducible exact HRZ.out) Try.underlying27 rfl HI.out rfl) rfl ⟨by rw [E3.out]; rfl, Below.trans HB1.out (ht.below (by omega))⟩
end
end Go.Proofs.Ytdmcemhckalhkaa
