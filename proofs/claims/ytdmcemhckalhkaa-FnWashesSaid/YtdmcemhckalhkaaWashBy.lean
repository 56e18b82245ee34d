/- a cloth behind a wash. -/
import Derived.Test.YtdmcemhckalhkaaWashFelt
import Derived.StillTailTactics
namespace Go.Proofs.Ytdmcemhckalhkaa
open Go.RowKit
set_option linter.unusedVariables false
set_option linter.unusedSimpArgs false
set_option maxRecDepth 100000
set_option maxHeartbeats 1000000 in
theorem c_washed (a b c d e p q r : Int) (w : World)
    (ha0 : 1 ≤ a) (ha1 : a ≤ 1000) (hb0 : 1 ≤ b) (hb1 : b ≤ 1000) (hc : 0 ≤ c ∧ c ≤ 9) (hd : 0 ≤ d ∧ d ≤ 9) (he : 0 ≤ e ∧ e ≤ 9) (hp' : 0 ≤ p ∧ p ≤ 9) (hq : 0 ≤ q ∧ q ≤ 9) (hr : 0 ≤ r ∧ r ≤ 9) :
    Calls Try.prog 36 #[.agg #[.int .i16 a, .int .i16 b, .int .i8 c, .int .i8 d, .int .i8 e], .agg #[.int .i8 p, .int .i8 q, .int .i8 r]] w fun u w' => u = .returned (.agg #[.int .i16 (sideV a (feltsV d e p q)), .int .i16 (sideV b (feltsV d e p q)), .int .i8 (max 0 (c - r)), .int .i8 (d + feltsV d e p q), .int .i8 e]) ∧ Below w.heap.size w w' := by
  obtain ⟨y0, y1, y2⟩ := feltsV_bd hd he hp' hq
  have CF := fun (w1 : World) => Lib.hid (c_felts a b c d e p q r w1 hd he hp' hq)
  obtain ⟨c0, c1⟩ := hc
  obtain ⟨d0, d1⟩ := hd
  obtain ⟨r0, r1⟩ := hr
  generalize feltsV d e p q = y at *
  have CA := fun (w1 : World) => Lib.hid (c_shrunk a y w1 ha0 ha1 y0 y1)
  have CB := fun (w1 : World) => Lib.hid (c_shrunk b y w1 hb0 hb1 y0 y1)
  have hA := blk_alloc (blk_alloc (heap_alloc_new w (.cells #[.int .i16 a, .int .i16 b, .int .i8 c, .int .i8 d, .int .i8 e] 27 (0, 0))) (.cells #[.int .i8 p, .int .i8 q, .int .i8 r] 47 (0, 0))) (.cells #[.int .i16 0, .int .i16 0, .int .i8 0, .int .i8 0, .int .i8 0] 27 (0, 0))
  have hP := blk_alloc (heap_alloc_new (w.alloc (.cells #[.int .i16 a, .int .i16 b, .int .i8 c, .int .i8 d, .int .i8 e] 27 (0, 0))) (.cells #[.int .i8 p, .int .i8 q, .int .i8 r] 47 (0, 0))) (.cells #[.int .i16 0, .int .i16 0, .int .i8 0, .int .i8 0, .int .i8 0] 27 (0, 0))
  have hR := heap_alloc_new ((w.alloc (.cells #[.int .i16 a, .int .i16 b, .int .i8 c, .int .i8 d, .int .i8 e] 27 (0, 0))).alloc (.cells #[.int .i8 p, .int .i8 q, .int .i8 r] 47 (0, 0))) (.cells #[.int .i16 0, .int .i16 0, .int .i8 0, .int .i8 0, .int .i8 0] 27 (0, 0))
  rw [World.size_alloc] at hP
  rw [World.size_alloc, World.size_alloc] at hR
  have HA := Lib.hid hA
  have HP := Lib.hid hP
  have HR := Lib.hid hR
  clear hA hP hR
  have w4' : IntKind.i8.wrap (c - r) = c - r := IntWalk.i8_in _ (by omega)
  have w5' : IntKind.i8.wrap (d + y) = d + y := IntWalk.i8_in _ (by omega)
  have HI : Hid ((Try.prog.info? 27).map (·.size) = some 5) := by show (Try.prog.info? 27).map (·.size) = some 5; kernel_rfl
  go_enter Try.func36, Try.ntmps36
  go_wp2_with (go_at_call 49; refine (CF _).out.mono ?_; rintro u w1 ⟨rfl, hb⟩; have HA := Lib.hid (blk_below HA.out hb); have HP := Lib.hid (blk_below HP.out hb); have HR := Lib.hid (blk_below HR.out hb); have HB : Hid (Below w.heap.size w w1) := by (show Below w.heap.size w w1; (repeat (first | with_reducible exact Below.refl _ _ | with_reducible refine below_alloc ?_ _ | with_reducible refine below_drew ?_ | with_reducible refine below_drewN ?_ _ | with_reducible refine below_then ?_ (by assumption)))))
  have c0' : w1.cell? ⟨w.heap.size, 0, none⟩ = some (.int .i16 a) := by simpa using cell_of_row w1 w.heap.size 0 _ _ _ HA.out
  have c1' : w1.cell? ⟨w.heap.size, 1, none⟩ = some (.int .i16 b) := by simpa using cell_of_row w1 w.heap.size 1 _ _ _ HA.out
  have c2' : w1.cell? ⟨w.heap.size, 2, none⟩ = some (.int .i8 c) := by simpa using cell_of_row w1 w.heap.size 2 _ _ _ HA.out
  have c3' : w1.cell? ⟨w.heap.size, 3, none⟩ = some (.int .i8 d) := by simpa using cell_of_row w1 w.heap.size 3 _ _ _ HA.out
  have c4' : w1.cell? ⟨w.heap.size, 4, none⟩ = some (.int .i8 e) := by simpa using cell_of_row w1 w.heap.size 4 _ _ _ HA.out
  have p2' : w1.cell? ⟨w.heap.size + 1, 2, none⟩ = some (.int .i8 r) := by simpa using cell_of_row w1 (w.heap.size + 1) 2 _ _ _ HP.out
  have r0' : w1.cell? ⟨w.heap.size + 1 + 1, 0, none⟩ = some (.int .i16 0) := by simpa using cell_of_row w1 (w.heap.size + 1 + 1) 0 _ _ _ HR.out
  have r1' : w1.cell? ⟨w.heap.size + 1 + 1, 1, none⟩ = some (.int .i16 0) := by simpa using cell_of_row w1 (w.heap.size + 1 + 1) 1 _ _ _ HR.out
  have r2' : w1.cell? ⟨w.heap.size + 1 + 1, 2, none⟩ = some (.int .i8 0) := by simpa using cell_of_row w1 (w.heap.size + 1 + 1) 2 _ _ _ HR.out
  have r3' : w1.cell? ⟨w.heap.size + 1 + 1, 3, none⟩ = some (.int .i8 0) := by simpa using cell_of_row w1 (w.heap.size + 1 + 1) 3 _ _ _ HR.out
  have r4' : w1.cell? ⟨w.heap.size + 1 + 1, 4, none⟩ = some (.int .i8 0) := by simpa using cell_of_row w1 (w.heap.size + 1 + 1) 4 _ _ _ HR.out
  have f0' := blk_frozen HR.out 0
  have f1' := blk_frozen HR.out 1
  have f2' := blk_frozen HR.out 2
  have f3' := blk_frozen HR.out 3
  have f4' := blk_frozen HR.out 4
  have CA' := fun (w1 : World) => ((CA w1).out.mono fun e w' h => ⟨h.1, h.2.symm⟩ : Calls Try.prog 60 #[.int .i16 a, .int .i8 y] w1 fun e w' => e = .returned (.int .i16 (sideV a y)) ∧ w' = w1)
  have CB' := fun (w1 : World) => ((CB w1).out.mono fun e w' h => ⟨h.1, h.2.symm⟩ : Calls Try.prog 60 #[.int .i16 b, .int .i8 y] w1 fun e w' => e = .returned (.int .i16 (sideV b y)) ∧ w' = w1)
  have HRd : Hid (w1.drew.heap[w.heap.size + 1 + 1]? = some (.cells #[.int .i16 0, .int .i16 0, .int .i8 0, .int .i8 0, .int .i8 0] 27 (0, 0))) := HR.out
  have HBd : Hid (Below w.heap.size w w1.drew) := below_drew HB.out
  by_cases hk : c - r < 0
  · have wk : max 0 (c - r) = 0 := by omega
    go_still_tail 21, (by kernel_rfl)
    still_call (CA' _)
    repeat still_step
    still_call (CB' _)
    repeat still_step
    refine wpStill_nil ?_
    change wpList _ _ _ _ _ w1.drew
    refine ev_store_row rfl 27 (.tmp 4) (.tmp 29) rfl (w.heap.size + 1 + 1) #[.int .i16 (sideV a y), .int .i16 (sideV b y), .int .i8 0, .int .i8 (d + y), .int .i8 e] rfl rfl 27 #[.int .i16 0, .int .i16 0, .int .i8 0, .int .i8 0, .int .i8 0] ?_ HI.out (Eq.refl (5 : Nat)) one5 ?_
    · with_reducible exact HRd.out
    intro w2 hblk ht
    go_wp2
    refine bodyPost_ret (v := .agg #[.int .i16 (sideV a y), .int .i16 (sideV b y), .int .i8 0, .int .i8 (d + y), .int .i8 e]) (results_cell_row rfl _ _ (w.heap.size + 1 + 1) 27 #[.int .i16 (sideV a y), .int .i16 (sideV b y), .int .i8 0, .int .i8 (d + y), .int .i8 e] (0, 0) _ rfl (by with_reducible exact hblk) Try.underlying27 rfl HI.out) rfl ⟨by first | rfl | rw [wk], HBd.out.trans (ht.below (by omega))⟩
  · have wk : max 0 (c - r) = c - r := by omega
    go_still_tail 21, (by kernel_rfl)
    still_call (CA' _)
    repeat still_step
    still_call (CB' _)
    repeat still_step
    refine wpStill_nil ?_
    change wpList _ _ _ _ _ w1.drew
    refine ev_store_row rfl 27 (.tmp 4) (.tmp 29) rfl (w.heap.size + 1 + 1) #[.int .i16 (sideV a y), .int .i16 (sideV b y), .int .i8 (c - r), .int .i8 (d + y), .int .i8 e] rfl rfl 27 #[.int .i16 0, .int .i16 0, .int .i8 0, .int .i8 0, .int .i8 0] ?_ HI.out (Eq.refl (5 : Nat)) one5 ?_
    · with_reducible exact HRd.out
    intro w2 hblk ht
    go_wp2
    refine bodyPost_ret (v := .agg #[.int .i16 (sideV a y), .int .i16 (sideV b y), .int .i8 (c - r), .int .i8 (d + y), .int .i8 e]) (results_cell_row rfl _ _ (w.heap.size + 1 + 1) 27 #[.int .i16 (sideV a y), .int .i16 (sideV b y), .int .i8 (c - r), .int .i8 (d + y), .int .i8 e] (0, 0) _ rfl (by with_reducible exact hblk) Try.underlying27 rfl HI.out) rfl ⟨by first | rfl | rw [wk], HBd.out.trans (ht.below (by omega))⟩

theorem okCloth_all {a b c d e : Int} (h : okCloth a b c d e = true) : (1 ≤ a ∧ a ≤ 1000) ∧ (1 ≤ b ∧ b ≤ 1000) ∧ (0 ≤ c ∧ c ≤ 9) ∧ (0 ≤ d ∧ d ≤ 9) ∧ (0 ≤ e ∧ e ≤ 9) := by
  simp [okCloth, inB, nine] at h
  omega
theorem okProgram_all {p q r : Int} (h : okProgram p q r = true) : (0 ≤ p ∧ p ≤ 9) ∧ (0 ≤ q ∧ q ≤ 9) ∧ (0 ≤ r ∧ r ≤ 9) := by
  simp [okProgram, nine] at h
  omega
def feltsByF (a b c d e p q r : Int) : Int × Int := if okCloth a b c d e && okProgram p q r then (feltsV d e p q, 0) else (0, 1)
def washOnceF (a b c d e p q r : Int) : Array Value × Int := if okCloth a b c d e && okProgram p q r then (#[.int .i16 (sideV a (feltsV d e p q)), .int .i16 (sideV b (feltsV d e p q)), .int .i8 (max 0 (c - r)), .int .i8 (d + feltsV d e p q), .int .i8 e], 0) else (#[.int .i16 0, .int .i16 0, .int .i8 0, .int .i8 0, .int .i8 0], 1)

set_option maxHeartbeats 800000 in
theorem c_sFeltsBy (a b c d e p q r : Int) (w : World) (ha : -32768 ≤ a ∧ a ≤ 32767) (hb : -32768 ≤ b ∧ b ≤ 32767) :
    Calls Try.prog 21 #[.agg #[.int .i16 a, .int .i16 b, .int .i8 c, .int .i8 d, .int .i8 e], .agg #[.int .i8 p, .int .i8 q, .int .i8 r]] w fun u w' => u = .returned (.tuple #[.int .i64 (feltsByF a b c d e p q r).1, .int .i64 (feltsByF a b c d e p q r).2]) ∧ Below w.heap.size w w' := by
  cases k0 : okCloth a b c d e
  · have E : Hid (feltsByF a b c d e p q r = (0, 1)) := by simp [Hid, feltsByF, k0]
    go_enter Try.func21, Try.ntmps21
    go_wp2_with (first | (go_at_call 53; ((with_reducible refine (c_l06Ok w.heap.size 0 a b c d e _ ha hb (by simp) (by simp) (by simp) (by simp) (by simp)).mono ?_); rintro e w1 ⟨rfl, rfl⟩)) | (go_at_call 54; ((with_reducible refine (c_l06Program (w.heap.size + 1) 0 p q r _ (by simp) (by simp) (by simp)).mono ?_); rintro e w1 ⟨rfl, rfl⟩)))
    go_ret2
    exact ⟨by rw [E.out]; rfl, by (repeat (first | with_reducible exact Below.refl _ _ | with_reducible refine below_alloc ?_ _ | with_reducible refine below_drew ?_ | with_reducible refine below_drewN ?_ _ | with_reducible refine below_then ?_ (by assumption)))⟩
  · cases k1 : okProgram p q r
    · have E : Hid (feltsByF a b c d e p q r = (0, 1)) := by simp [Hid, feltsByF, k0, k1]
      go_enter Try.func21, Try.ntmps21
      go_wp2_with (first | (go_at_call 53; ((with_reducible refine (c_l06Ok w.heap.size 0 a b c d e _ ha hb (by simp) (by simp) (by simp) (by simp) (by simp)).mono ?_); rintro e w1 ⟨rfl, rfl⟩)) | (go_at_call 54; ((with_reducible refine (c_l06Program (w.heap.size + 1) 0 p q r _ (by simp) (by simp) (by simp)).mono ?_); rintro e w1 ⟨rfl, rfl⟩)))
      go_ret2
      exact ⟨by rw [E.out]; rfl, by (repeat (first | with_reducible exact Below.refl _ _ | with_reducible refine below_alloc ?_ _ | with_reducible refine below_drew ?_ | with_reducible refine below_drewN ?_ _ | with_reducible refine below_then ?_ (by assumption)))⟩
    · have E : Hid (feltsByF a b c d e p q r = (feltsV d e p q, 0)) := by simp [Hid, feltsByF, k0, k1]
      obtain ⟨h1, h2, hc, hd, he⟩ := okCloth_all k0
      obtain ⟨hp', hq, hr⟩ := okProgram_all k1
      obtain ⟨fv0, fv1, fv2⟩ := feltsV_bd hd he hp' hq
      go_enter Try.func21, Try.ntmps21
      go_wp2_with (first | (go_at_call 53; ((with_reducible refine (c_l06Ok w.heap.size 0 a b c d e _ ha hb (by simp) (by simp) (by simp) (by simp) (by simp)).mono ?_); rintro e w1 ⟨rfl, rfl⟩)) | (go_at_call 54; ((with_reducible refine (c_l06Program (w.heap.size + 1) 0 p q r _ (by simp) (by simp) (by simp)).mono ?_); rintro e w1 ⟨rfl, rfl⟩)) | (go_at_call 50; refine (c_l06Felts w.heap.size 0 (w.heap.size + 1) 0 a b c d e p q r _ (by simp [ClothAt]) (by simp [ProgAt]) hd he hp' hq).mono ?_; rintro u w1 ⟨rfl, n, rfl⟩))
      go_ret2
      exact ⟨by rw [E.out]; rfl, by (repeat (first | with_reducible exact Below.refl _ _ | with_reducible refine below_alloc ?_ _ | with_reducible refine below_drew ?_ | with_reducible refine below_drewN ?_ _ | with_reducible refine below_then ?_ (by assumption)))⟩

set_option maxHeartbeats 800000 in
theorem c_iFeltsBy (a b c d e p q r : Int) (w : World) (ha : -32768 ≤ a ∧ a ≤ 32767) (hb : -32768 ≤ b ∧ b ≤ 32767) :
    Calls Try.prog 20 #[.agg #[.int .i16 a, .int .i16 b, .int .i8 c, .int .i8 d, .int .i8 e], .agg #[.int .i8 p, .int .i8 q, .int .i8 r]] w fun u w' => u = .returned (.tuple #[.int .i64 (feltsByF a b c d e p q r).1, .int .i64 (feltsByF a b c d e p q r).2]) ∧ Below w.heap.size w w' := by
  cases k0 : okCloth a b c d e
  · have E : Hid (feltsByF a b c d e p q r = (0, 1)) := by simp [Hid, feltsByF, k0]
    go_enter Try.func20, Try.ntmps20
    go_wp2_with (first | (go_at_call 19; ((with_reducible refine (c_iValidCloth a b c d e _ ha hb).mono ?_); rintro e w1 ⟨rfl, hb⟩; obtain ⟨hc_, hf_, hz_⟩ := bfacts hb; (try simp only [World.size_alloc, World.size_setCell, World.size_drew] at hc_ hf_ hz_); have hzz0 : w.heap.size < w1.heap.size := (by omega); have hzz1 : w.heap.size + 1 < w1.heap.size := (by omega))) | (go_at_call 23; ((with_reducible refine (c_iValidProgram p q r _).mono ?_); rintro e w1 ⟨rfl, hb⟩; obtain ⟨hc_, hf_, hz_⟩ := bfacts hb; (try simp only [World.size_alloc, World.size_setCell, World.size_drew] at hc_ hf_ hz_); have hzz0 : w.heap.size < w1.heap.size := (by omega); have hzz1 : w.heap.size + 1 < w1.heap.size := (by omega))))
    go_ret2
    exact ⟨by rw [E.out]; rfl, by (repeat (first | with_reducible exact Below.refl _ _ | with_reducible refine below_alloc ?_ _ | with_reducible refine below_drew ?_ | with_reducible refine below_drewN ?_ _ | with_reducible refine below_then ?_ (by assumption)))⟩
  · cases k1 : okProgram p q r
    · have E : Hid (feltsByF a b c d e p q r = (0, 1)) := by simp [Hid, feltsByF, k0, k1]
      go_enter Try.func20, Try.ntmps20
      go_wp2_with (first | (go_at_call 19; ((with_reducible refine (c_iValidCloth a b c d e _ ha hb).mono ?_); rintro e w1 ⟨rfl, hb⟩; obtain ⟨hc_, hf_, hz_⟩ := bfacts hb; (try simp only [World.size_alloc, World.size_setCell, World.size_drew] at hc_ hf_ hz_); have hzz0 : w.heap.size < w1.heap.size := (by omega); have hzz1 : w.heap.size + 1 < w1.heap.size := (by omega))) | (go_at_call 23; ((with_reducible refine (c_iValidProgram p q r _).mono ?_); rintro e w1 ⟨rfl, hb⟩; obtain ⟨hc_, hf_, hz_⟩ := bfacts hb; (try simp only [World.size_alloc, World.size_setCell, World.size_drew] at hc_ hf_ hz_); have hzz0 : w.heap.size < w1.heap.size := (by omega); have hzz1 : w.heap.size + 1 < w1.heap.size := (by omega))))
      go_ret2
      exact ⟨by rw [E.out]; rfl, by (repeat (first | with_reducible exact Below.refl _ _ | with_reducible refine below_alloc ?_ _ | with_reducible refine below_drew ?_ | with_reducible refine below_drewN ?_ _ | with_reducible refine below_then ?_ (by assumption)))⟩
    · have E : Hid (feltsByF a b c d e p q r = (feltsV d e p q, 0)) := by simp [Hid, feltsByF, k0, k1]
      obtain ⟨h1, h2, hc, hd, he⟩ := okCloth_all k0
      obtain ⟨hp', hq, hr⟩ := okProgram_all k1
      obtain ⟨fv0, fv1, fv2⟩ := feltsV_bd hd he hp' hq
      go_enter Try.func20, Try.ntmps20
      go_wp2_with (first | (go_at_call 19; ((with_reducible refine (c_iValidCloth a b c d e _ ha hb).mono ?_); rintro e w1 ⟨rfl, hb⟩; obtain ⟨hc_, hf_, hz_⟩ := bfacts hb; (try simp only [World.size_alloc, World.size_setCell, World.size_drew] at hc_ hf_ hz_); have hzz0 : w.heap.size < w1.heap.size := (by omega); have hzz1 : w.heap.size + 1 < w1.heap.size := (by omega))) | (go_at_call 23; ((with_reducible refine (c_iValidProgram p q r _).mono ?_); rintro e w1 ⟨rfl, hb⟩; obtain ⟨hc_, hf_, hz_⟩ := bfacts hb; (try simp only [World.size_alloc, World.size_setCell, World.size_drew] at hc_ hf_ hz_); have hzz0 : w.heap.size < w1.heap.size := (by omega); have hzz1 : w.heap.size + 1 < w1.heap.size := (by omega))) | (go_at_call 49; ((with_reducible refine (c_felts a b c d e p q r _ hd he hp' hq).mono ?_); rintro e w1 ⟨rfl, hb⟩; obtain ⟨hc_, hf_, hz_⟩ := bfacts hb; (try simp only [World.size_alloc, World.size_setCell, World.size_drew] at hc_ hf_ hz_); have hzz0 : w.heap.size < w1.heap.size := (by omega); have hzz1 : w.heap.size + 1 < w1.heap.size := (by omega))))
      go_ret2
      exact ⟨by rw [E.out]; rfl, by (repeat (first | with_reducible exact Below.refl _ _ | with_reducible refine below_alloc ?_ _ | with_reducible refine below_drew ?_ | with_reducible refine below_drewN ?_ _ | with_reducible refine below_then ?_ (by assumption)))⟩

end Go.Proofs.Ytdmcemhckalhkaa
