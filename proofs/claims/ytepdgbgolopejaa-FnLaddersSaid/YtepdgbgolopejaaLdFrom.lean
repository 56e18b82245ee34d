/- The reference's loops from which a loop was made. -/
import Derived.Test.YtepdgbgolopejaaLdSpec
namespace Go.Proofs.Ytepdgbgolopejaa
open Go.RowKit
set_option linter.unusedVariables false
set_option linter.unusedSimpArgs false
set_option maxRecDepth 100000

theorem natL_snoc (X : List Nat) (y : Nat) : nums .i64 (natL (X ++ [y])) = nums .i64 (natL X) ++ [.int .i64 (y : Int)] := by rw [natL_app]; simp [natL, nums]
set_option maxHeartbeats 1000000 in
theorem c_l05Is (g r x : Nat) (cast : Int) (A : Option Addr) (cap : Nat) (L : List (List UInt8)) (w : World) (hF : FabAt w cast A cap L) (hV : FabV cast L) (hg : w.heap[g]? = some (.cells #[.int .i16 cast, .slice A L.length cap] 27 (0, 0)))
    (hr : r ≤ L.length) (hx : x < widN cast L r) :
    Calls Try.prog 63 #[.pointer (some ⟨g, 0, none⟩), .agg #[.int .i16 (r : Int), .int .i16 (x : Int)]] w fun e w' => e = .returned (.bool true) ∧ Below w.heap.size w w' := by
  have hb0 : Below w.heap.size w (w.alloc (.cells #[.int .i16 (r : Int), .int .i16 (x : Int)] 39 (0, 0))) := below_alloc (Below.refl _ _) _
  have CW := Lib.hid (c_l05Widths g cast A cap L _ (hF.below hb0) hV (blk_below hg hb0))
  have HX := Lib.hid (heap_alloc_new w (.cells #[.int .i16 (r : Int), .int .i16 (x : Int)] 39 (0, 0)))
  have HB0 := Lib.hid hb0
  have HG := Lib.hid (widL_get (cast := cast) (L := L) (show r < L.length + 1 by omega))
  have h30 := hV.num
  have hw := hV.wid r hr
  clear hF hV hg hb0
  have q1 : inB (r : Int) 0 ((L.length : Int)) = true := by simp [inB]; omega
  have q2 : inB (x : Int) 0 ((widN cast L r : Int) - 1) = true := by simp [inB]; omega
  have CI1 := fun w => Lib.hid (q1 ▸ c_l00In (r : Int) 0 ((L.length : Int)) w)
  have CI2 := fun w => Lib.hid (q2 ▸ c_l00In (x : Int) 0 ((widN cast L r : Int) - 1) w)
  clear q1 q2
  generalize widN cast L r = m at *
  have x60 : (x : Int) < 60 := by omega
  have r30 : (r : Int) ≤ (L.length : Int) := by omega
  have wm : IntKind.i64.wrap ((m : Int) - 1) = (m : Int) - 1 := IntWalk.i64_in _ (by omega)
  go_enter Try.func63, Try.ntmps63
  go_wp2_with (first
    | (go_at_call 25; ((with_reducible refine CW.out.mono ?_); rintro e w1 ⟨v, rfl, hO, hb⟩; obtain ⟨A1, c1, rfl, hA⟩ := own_form hO; obtain ⟨g1, rfl, hg1⟩ := hA (by omega); have x1 := (own_get hO HG.out).1; have HX1 := Lib.hid (blk_below HX.out hb); have l0 : w1.cell? ⟨w.heap.size, 0, none⟩ = some (.int .i16 (r : Int)) := blk_cell HX1.out 0; have l1 : w1.cell? ⟨w.heap.size, 1, none⟩ = some (.int .i16 (x : Int)) := blk_cell HX1.out 1; have HB1 := Lib.hid (below_then HB0.out hb); clear hO hb))
    | (go_at_call 40; ((with_reducible refine (CI1 _).out.mono ?_); rintro e w2 ⟨rfl, rfl⟩))
    | (go_at_call 40; ((with_reducible refine (CI2 _).out.mono ?_); rintro e w2 ⟨rfl, rfl⟩)))
  go_quiet (first
    | (go_at_call 40; with_reducible exact Calls.quiet_of_same (flipw (CI1 _).out))
    | (go_at_call 40; with_reducible exact Calls.quiet_of_same (flipw (CI2 _).out)))
  go_wp2
  exact bodyPost_ret (v := .bool true) (by simp [results, Try.results63, go_sem]) rfl ⟨rfl, below_drewN HB1.out _⟩
set_option maxHeartbeats 1000000 in
theorem c_l05Loop (g r x : Nat) (cast : Int) (A : Option Addr) (cap : Nat) (L : List (List UInt8)) (w : World) (hF : FabAt w cast A cap L) (hok : fabOk cast L = true) (hg : w.heap[g]? = some (.cells #[.int .i16 cast, .slice A L.length cap] 27 (0, 0)))
    (hr : r ≤ L.length) (hx : x < widN cast L r) :
    Calls Try.prog 37 #[.pointer (some ⟨g, 0, none⟩), .agg #[.int .i16 (r : Int), .int .i16 (x : Int)]] w fun e w' => e = .returned (.int .i64 0) ∧ Below w.heap.size w w' := by
  have hV := fabV_of hok
  have hb0 : Below w.heap.size w (w.alloc (.cells #[.int .i16 (r : Int), .int .i16 (x : Int)] 39 (0, 0))) := below_alloc (Below.refl _ _) _
  have CO := Lib.hid (c_l05Ok g cast A cap L _ (hF.below hb0) (blk_below hg hb0))
  have CI := Lib.hid (fun w' h h2 => c_l05Is g r x cast A cap L w' h hV h2 hr hx)
  have HX := Lib.hid (heap_alloc_new w (.cells #[.int .i16 (r : Int), .int .i16 (x : Int)] 39 (0, 0)))
  have HF := Lib.hid (hF.below hb0)
  have HA := Lib.hid (blk_below hg hb0)
  have HB0 := Lib.hid hb0
  rw [hok] at CO
  clear hF hok hV hg hb0 hr hx
  go_enter Try.func37, Try.ntmps37
  go_wp2_with (first
    | (go_at_call 24; ((with_reducible refine CO.out.mono ?_); rintro e w1 ⟨rfl, hb⟩; have HB1 := Lib.hid (below_then HB0.out hb); have HA1 := Lib.hid (blk_below HA.out hb); have HX1 := Lib.hid (blk_below HX.out hb); have l0 : w1.cell? ⟨w.heap.size, 0, none⟩ = some (.int .i16 (r : Int)) := blk_cell HX1.out 0; have l1 : w1.cell? ⟨w.heap.size, 1, none⟩ = some (.int .i16 (x : Int)) := blk_cell HX1.out 1; have HF1 := Lib.hid (HF.out.below hb); clear hb))
    | (go_at_call 63; ((refine (CI.out _ HF1.out HA1.out).mono ?_); rintro e w2 ⟨rfl, hb⟩; have HB2 := Lib.hid (below_then HB1.out hb); clear hb)))
  exact bodyPost_ret (v := .int .i64 0) (by simp [results, Try.results37, go_sem]) rfl ⟨rfl, HB2.out⟩
set_option maxHeartbeats 4000000 in
theorem c_sFromOf (r x : Nat) (cast : Int) (A : Option Addr) (cap : Nat) (L : List (List UInt8)) (w : World) (hF : FabAt w cast A cap L) (hok : fabOk cast L = true) (hr : r ≤ L.length) (hx : x < widN cast L r) :
    Calls Try.prog 13 #[.agg #[.int .i16 cast, .slice A L.length cap], .agg #[.int .i16 (r : Int), .int .i16 (x : Int)]] w fun e w' => ∃ v, e = .returned (.tuple #[v, .int .i64 0]) ∧ w'.ownsRow w.heap.size 2 1 v (frm L r x).length (nums .i64 (natL (frm L r x))) ∧ Below w.heap.size w w' := by
  have hV := fabV_of hok
  have h30 := hV.num
  have hx60 := hV.wid r hr
  have HV := Lib.hid hV
  have s1 := heap_alloc_new w (.cells #[.int .i16 cast, .slice A L.length cap] 27 (0, 0))
  have s2 := heap_alloc_new (w.alloc (.cells #[.int .i16 cast, .slice A L.length cap] 27 (0, 0))) (.cells #[.int .i16 (r : Int), .int .i16 (x : Int)] 39 (0, 0))
  have s3 := heap_alloc_new ((w.alloc (.cells #[.int .i16 cast, .slice A L.length cap] 27 (0, 0))).alloc (.cells #[.int .i16 (r : Int), .int .i16 (x : Int)] 39 (0, 0))) (.cells #[] 2 (0, 0))
  rw [World.size_alloc] at s2
  rw [World.size_alloc, World.size_alloc] at s3
  have hb3 : Below w.heap.size w (((w.alloc (.cells #[.int .i16 cast, .slice A L.length cap] 27 (0, 0))).alloc (.cells #[.int .i16 (r : Int), .int .i16 (x : Int)] 39 (0, 0))).alloc (.cells #[] 2 (0, 0))) := below_alloc (below_alloc (below_alloc (Below.refl _ _) _) _) _
  have HA := Lib.hid (blk_alloc (blk_alloc s1 (.cells #[.int .i16 (r : Int), .int .i16 (x : Int)] 39 (0, 0))) (.cells #[] 2 (0, 0)))
  have HX := Lib.hid (blk_alloc s2 (.cells #[] 2 (0, 0)))
  have HO := Lib.hid (own_empty (base := w.heap.size) (e := 2) (size := 1) s3 (by omega))
  have HF := Lib.hid (hF.below hb3)
  have HB := Lib.hid hb3
  have CL := Lib.hid (c_l05Loop w.heap.size r x cast A cap L _ (hF.below hb3) hok HA.out hr hx)
  clear hF hok hV s1 s2 s3 hb3
  have r30 : (r : Int) ≤ 30 := by omega
  have x60 : (x : Int) < 60 := by omega
  by_cases h0 : r = 0
  · subst h0
    have HE : Hid (frm L 0 x = []) := rfl
    rw [show ((0 : Nat) : Int) = 0 from rfl] at CL HX
    go_enter Try.func13, Try.ntmps13
    go_wp2_with (first
      | (go_at_call 37; ((with_reducible refine CL.out.mono ?_); rintro e w1 ⟨rfl, hb⟩; have HX1 := Lib.hid (blk_below HX.out hb); have l0 : w1.cell? ⟨w.heap.size + 1, 0, none⟩ = some (.int .i16 0) := blk_cell HX1.out 0; have l1 : w1.cell? ⟨w.heap.size + 1, 1, none⟩ = some (.int .i16 (x : Int)) := blk_cell HX1.out 1; have HO1 := Lib.hid (own_below HO.out hb); have HB1 := Lib.hid (below_then HB.out hb); clear hb)))
    exact bodyPost_ret (v := .tuple #[.slice (some ⟨w.heap.size + 2, 0, none⟩) 0 0, .int .i64 0]) (by simp [results, Try.results13, go_sem]) rfl ⟨_, rfl, by rw [HE.out]; exact HO1.out, HB1.out⟩
  · obtain ⟨q, rfl⟩ : ∃ q, r = q + 1 := ⟨r - 1, by omega⟩
    have q0 : (0 : Int) ≤ (q : Int) := by omega
    have q1 : (q : Int) < (L.length : Int) := by omega
    have q2 : ¬ ((q : Int) + 1 = 0) := by omega
    have q3 : ((q : Int) + 1 == 0) = false := by simp; omega
    have q30 : (q : Int) < 30 := by omega
    obtain ⟨ad, rfl, c0⟩ := HF.out.row q _ (strs_get (show q < L.length by omega))
    have hl120 := HV.out.len q (by omega)
    have hmk : mkS (L.getD q []) ≤ 60 := by rw [HV.out.wd q (by omega)]; exact HV.out.wid (q + 1) (by omega)
    have htk := HV.out.tk q (by omega)
    have htk60 := HV.out.wid q (by omega)
    rw [← htk] at htk60
    obtain ⟨sv, hsv⟩ := HV.out.row q (by omega)
    have HE : Hid (frm L (q + 1) x = fromP (L.getD q []) x (L.getD q []).length) := rfl
    clear htk
    have eq1 : ((q + 1 : Nat) : Int) = (q : Int) + 1 := by omega
    rw [eq1] at CL HX
    clear eq1
    generalize L.getD q [] = l at *
    have hst : Hid (∀ (j : Nat) (h : j < l.length), ∃ s, stT l[j] = some s) := fun j h => rowS_st hsv h
    have HLen : Hid (∀ j, j ≤ l.length → (fromP l x j).length ≤ 60) := fun j hj => by
      have h1 := len_le_of_sorted (fromP_sort l x j hj) (fromP_lt l x j hj)
      have h2 := takS_le l j
      omega
    clear hsv sv hx hx60 hr h0
    have hsz : (str l).size = l.length := str_size l
    go_enter Try.func13, Try.ntmps13
    go_wp2_with (first
      | (go_at_call 37; ((with_reducible refine CL.out.mono ?_); rintro e w1 ⟨rfl, hb⟩; have HX1 := Lib.hid (blk_below HX.out hb); have HA1 := Lib.hid (blk_below HA.out hb); have l0 : w1.cell? ⟨w.heap.size + 1, 0, none⟩ = some (.int .i16 ((q : Int) + 1)) := blk_cell HX1.out 0; have l1 : w1.cell? ⟨w.heap.size + 1, 1, none⟩ = some (.int .i16 (x : Int)) := blk_cell HX1.out 1; have f0 : w1.cell? ⟨w.heap.size, 0, none⟩ = some (.int .i16 cast) := blk_cell HA1.out 0; have f1 : w1.cell? ⟨w.heap.size, 1, none⟩ = some (.slice (some ad) L.length cap) := blk_cell HA1.out 1; have c1 := (hb.cell (World.block_lt_of_cell? _ _ c0)).trans c0; have HO1 := Lib.hid (own_below HO.out hb); have HB1 := Lib.hid (below_then HB.out hb); clear hb)))
    clear HO HB HX HA CL HF c0 c1 f0 f1 l0 l1 HA1
    go_loopw [6, 9, 10, 11] (fun v tv mv iv wr => ∃ j : Nat, j ≤ l.length ∧ tv = .int .i64 (tkS (l.take j) : Int) ∧ mv = .int .i64 (mkS (l.take j) : Int) ∧ iv = .int .i64 (j : Int) ∧ Hid (wr.ownsRow w.heap.size 2 1 v (fromP l x j).length (nums .i64 (natL (fromP l x j)))) ∧ Hid (wr.heap[w.heap.size + 1]? = some (.cells #[.int .i16 ((q : Int) + 1), .int .i16 (x : Int)] 39 (0, 0))) ∧ Hid (Below w.heap.size w wr)) (fun _ _ _ iv _ => l.length - (intOf iv).toNat)
    case atStart => exact ⟨0, by omega, by simp [tkS], by simp [mkS], rfl, HO1, HX1, HB1⟩
    case round =>
      clear HO1 HX1 HB1
      obtain ⟨j, hj, rfl, rfl, rfl, HO, HX, HB⟩ := hrel
      by_cases hjl : j < l.length
      · have d1 : decide ((j : Int) < (l.length : Int)) = true := by simp; omega
        have j0 : (0 : Int) ≤ (j : Int) := by omega
        have j1 : (j : Int) < (l.length : Int) := by omega
        have l1 : wr.cell? ⟨w.heap.size + 1, 1, none⟩ = some (.int .i16 (x : Int)) := blk_cell HX.out 1
        obtain ⟨s, hs⟩ := hst.out j hjl
        obtain ⟨s1, s2, s3, s4, -, -, s5⟩ := stT_N hs
        have htS := tkS_take hjl
        have hmS := mkS_take hjl
        have htL := takS_le l (j + 1)
        have hmL := makS_le l (j + 1)
        have CT := fun w => Lib.hid (s1 ▸ c_l05Takes l[j] w)
        have CM := fun w => Lib.hid (s2 ▸ c_l05Makes l[j] w)
        have hgd := getD_u8 hjl
        have HST : Hid (fromP l x (j + 1) = fromP l x j ++ (if mkS (l.take j) ≤ x ∧ x < mkS (l.take j) + mkN l[j] then plcs (tkS (l.take j)) (tkN l[j]) else [])) := by rw [Hid, fromP, hgd]
        have hXl := HLen.out j hj
        have CI := fun w => Lib.hid (c_l00In (x : Int) (mkS (l.take j) : Int) ((mkS (l.take j) : Int) + (mkN l[j] : Int) - 1) w)
        have HTS := Lib.hid htS
        have HMS := Lib.hid hmS
        obtain ⟨c, hcc⟩ : ∃ c, l[j]'hjl = c := ⟨_, rfl⟩
        have hgk : ∀ h, (str l)[j]'h = c := fun h => (str_get l j h hjl).trans hcc
        rw [hcc] at htS hmS CT CM HST CI HTS HMS s3 s4 s5
        clear hgd hs s s1 s2 hcc
        have m60 : mkS (l.take j) + mkN c ≤ 60 := by omega
        have t60 : tkS (l.take j) + tkN c ≤ 60 := by omega
        clear htS hmS htL hmL
        generalize tkS (l.take j) = fr at *
        generalize mkS (l.take j) = to at *
        generalize tkN c = tn at *
        generalize mkN c = mn at *
        have HX5 := HX
        generalize hFX : fromP l x j = X at *
        by_cases hin : to ≤ x ∧ x < to + mn
        · have hq : inB (x : Int) (to : Int) ((to : Int) + (mn : Int) - 1) = true := by simp [inB]; omega
          rw [hq] at CI
          have HS2 : Hid (fromP l x (j + 1) = X ++ plcs fr tn) := by rw [Hid, HST.out, if_pos hin]
          clear hq hin HST
          go_wp2_with (first
            | (go_at_call 38; ((with_reducible refine (CT _).out.mono ?_); rintro e w6 ⟨rfl, rfl⟩))
            | (go_at_call 39; ((with_reducible refine (CM _).out.mono ?_); rintro e w6 ⟨rfl, rfl⟩))
            | (go_at_call 40; ((with_reducible refine (CI _).out.mono ?_); rintro e w6 ⟨rfl, rfl⟩)))
          have HO9 : Hid (wr.ownsRow w.heap.size 2 1 u6 (X ++ plcs fr 0).length (nums .i64 (natL (X ++ plcs fr 0)))) := by rw [show X ++ plcs fr 0 = X by simp [plcs]]; exact HO
          have HX9 := HX
          have HB9 := HB
          clear HO HX HB HX5
          go_loopw [6, 14] (fun v kv wr => ∃ k : Nat, k ≤ tn ∧ kv = .int .i64 (k : Int) ∧ Hid (wr.ownsRow w.heap.size 2 1 v (X ++ plcs fr k).length (nums .i64 (natL (X ++ plcs fr k)))) ∧ Hid (wr.heap[w.heap.size + 1]? = some (.cells #[.int .i16 ((q : Int) + 1), .int .i16 (x : Int)] 39 (0, 0))) ∧ Hid (Below w.heap.size w wr)) (fun _ kv _ => tn - (intOf kv).toNat)
          case atStart => exact ⟨0, by omega, by go_num, HO9, HX9, HB9⟩
          case round =>
            clear HO9 HX9 HB9
            obtain ⟨k, hk, rfl, HO, HX, HB⟩ := hrel
            by_cases hkt : k < tn
            · have d2 : decide ((k : Int) < (tn : Int)) = true := by simp; omega
              have HLn : Hid ((X ++ plcs fr k).length = X.length + k) := by rw [Hid, List.length_append, plcs_len]
              have HLn1 : Hid ((X ++ plcs fr (k + 1)).length = X.length + k + 1) := by rw [Hid, List.length_append, plcs_len]; rfl
              have HS : Hid (nums .i64 (natL (X ++ plcs fr (k + 1))) = nums .i64 (natL (X ++ plcs fr k)) ++ [.int .i64 ((fr : Int) + (k : Int))]) := by rw [Hid, plcs_succ, ← List.append_assoc, natL_snoc]; simp
              have HI : Hid (wr.ownsRow w.heap.size 2 1 u6 (X.length + k) (nums .i64 (natL (X ++ plcs fr k)))) := by have := HO.out; rwa [HLn.out] at this
              have hz := HB.out.size
              go_wp2_with (at_builtin; refine ap1 rfl (.tmp 62) (.tmp 66) 29 2 rfl (.int .i64 0) 1 8 w.heap.size Try.underlying29 (by kernel_rfl) rfl (by decide) u6 (X.length + k) (nums .i64 (natL (X ++ plcs fr k))) [.int .i64 ((fr : Int) + (k : Int))] rfl rfl (by simp) rfl rfl HI.out hz (by omega) (by omega) ?_; intro g3 d3 w5 hown hg3 hat; have HB5 := Lib.hid (below_grown HB.out hg3 HI.out (Nat.le_refl _) hz); have HX5 := Lib.hid (blk_grownT HX.out HI.out (by decide) hg3); have HO5 := Lib.hid hown; clear hown hat hg3)
              go_roundw
              case rel => exact ⟨k + 1, by omega, by go_num, by rw [HS.out, HLn1.out]; exact HO5, HX5, HB5⟩
              case measure => simp [intOf]; omega
            · obtain rfl : k = tn := by omega
              have d2 : decide ((k : Int) < (k : Int)) = false := by simp
              go_wp2
              go_roundw
              case rel => exact ⟨j + 1, by omega, by rw [HTS.out]; go_num, by rw [HMS.out]; go_num, by go_num, by rw [HS2.out]; exact HO, HX, HB⟩
              case measure => simp [intOf]; omega
        · have hq : inB (x : Int) (to : Int) ((to : Int) + (mn : Int) - 1) = false := by simp [inB]; omega
          rw [hq] at CI
          have HS2 : Hid (fromP l x (j + 1) = X) := by rw [Hid, HST.out, if_neg hin, List.append_nil]
          clear hq hin HST
          go_wp2_with (first
            | (go_at_call 38; ((with_reducible refine (CT _).out.mono ?_); rintro e w6 ⟨rfl, rfl⟩))
            | (go_at_call 39; ((with_reducible refine (CM _).out.mono ?_); rintro e w6 ⟨rfl, rfl⟩))
            | (go_at_call 40; ((with_reducible refine (CI _).out.mono ?_); rintro e w6 ⟨rfl, rfl⟩)))
          go_roundw
          case rel => exact ⟨j + 1, by omega, by rw [HTS.out]; go_num, by rw [HMS.out]; go_num, by go_num, by rw [HS2.out]; exact HO, HX, HB⟩
          case measure => simp [intOf]; omega
      · obtain rfl : j = l.length := by omega
        have d1 : decide ((l.length : Int) < (l.length : Int)) = false := by simp
        go_wp2
        exact bodyPost_ret (v := .tuple #[u6, .int .i64 0]) (by simp [results, Try.results13, go_sem]) rfl ⟨_, rfl, by rw [HE.out]; exact HO.out, HB.out⟩
end Go.Proofs.Ytepdgbgolopejaa
