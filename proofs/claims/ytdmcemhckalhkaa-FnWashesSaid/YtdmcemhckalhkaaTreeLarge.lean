/- The largest clean cloth: the reference's search. -/
import Derived.Test.YtdmcemhckalhkaaTreeFew
import Derived.Deep.QuietTactic
import Derived.BigQuiet
import Derived.StillTailTactics
namespace Go.Proofs.Ytdmcemhckalhkaa
open Go.RowKit
set_option linter.unusedVariables false
set_option linter.unusedSimpArgs false
set_option maxRecDepth 100000

set_option maxHeartbeats 4000000 in
theorem c_sLargestClean (gb : Nat) (a b c d e : Int) (n cap : Nat) (p q r : Nat → Int) (M : Int) (w : World) (ha : -32768 ≤ a ∧ a ≤ 32767) (hb : -32768 ≤ b ∧ b ≤ 32767) (h : ProgsAt w (some ⟨gb, 0, none⟩) n p q r) (hn : n ≤ 1048576) :
    Calls Try.prog 15 #[.agg #[.int .i16 a, .int .i16 b, .int .i8 c, .int .i8 d, .int .i8 e], .slice (some ⟨gb, 0, none⟩) n cap, .int .i64 M] w fun u w' => ∃ v, u = .returned (.tuple #[v, .int .i64 ((bestR areaF a b c d e n p q r M).1.c.a * (bestR areaF a b c d e n p q r M).1.c.b), .int .i64 (bestR areaF a b c d e n p q r M).2]) ∧ w'.ownsRow w.heap.size 2 1 v (bestR areaF a b c d e n p q r M).1.o.length (nums .i64 (bestR areaF a b c d e n p q r M).1.o) ∧ Below w.heap.size w w' := by
  have HB0 : Hid (Below w.heap.size w (w.alloc (.cells #[.int .i16 a, .int .i16 b, .int .i8 c, .int .i8 d, .int .i8 e] 27 (0, 0)))) := below_alloc (Below.refl _ _) _
  have HC := Lib.hid (heap_alloc_new w (.cells #[.int .i16 a, .int .i16 b, .int .i8 c, .int .i8 d, .int .i8 e] 27 (0, 0)))
  have H := Lib.hid (h.below HB0.out)
  have HIC : Hid ((Try.prog.info? 27).map (·.size) = some 5) := by show (Try.prog.info? 27).map (·.size) = some 5; kernel_rfl
  have CM := Lib.hid (c_l06Most w.heap.size gb a b c d e n cap p q r M _ (clothAt_row HC.out) ha hb H.out hn)
  clear h
  by_cases hz : mostF a b c d e n p q r M = 0
  · have hmo := mostF_ok hz
    have HZ := Lib.hid hz
    obtain ⟨m, rfl⟩ : ∃ m : Nat, M = (m : Int) := ⟨M.toNat, by have := hmo.hm; omega⟩
    have hm4 : m ≤ 4 := by have := hmo.hm; omega
    have CL := Lib.hid (c_l06All gb n cap m p q r ⟨a, b, c, d, e⟩ _ H.out (fun h0 => World.block_lt_of_cell? _ _ (progAt_of H.out h0).1) hmo.hn hm4 hmo.x hmo.g)
    have HOK := Lib.hid (fun x hx => nodes_ok (x := x) hmo hx)
    have HSO := Lib.hid (nodes_sorted hmo)
    have HLE := Lib.hid (nodes_len hmo)
    rw [hz] at CM
    clear hz hmo
    go_enter Try.func15, Try.ntmps15
    go_wp2_with (first
      | (refine wpList_load_row rfl 27 (.tmp 3) rfl (w.heap.size) rfl 27 #[.int .i16 a, .int .i16 b, .int .i8 c, .int .i8 d, .int .i8 e] (0, 0) _ ?_ Try.underlying27 rfl HIC.out ?_; (with_reducible exact HC.out))
      | (go_at_call 43; ((with_reducible refine CM.out.mono ?_); rintro u w1 ⟨rfl, rfl⟩))
      | (go_at_call 44; ((with_reducible refine CL.out.mono ?_); rintro u w1 ⟨L, gN, cN, rfl, hL, hO, hR, hF, hb⟩; have HL := Lib.hid hL; have HO := Lib.hid hO; have HR := Lib.hid hR; have HF := Lib.hid hF; have HB := Lib.hid (below_then HB0.out hb); have HC1 := Lib.hid (blk_below HC.out hb); clear hL hO hR hF hb)))
    have HNL : Hid (L.map (·.1) = nodesF a b c d e n p q r (m : Int)) := by rw [Hid, HL.out, nodesF, Int.toNat_natCast]
    have hLn : L.length ≤ 1555 := by have h1 := congrArg List.length HNL.out; rw [List.length_map] at h1; rw [h1]; exact HLE.out
    have hbs := HB0.out.size
    go_loopw [12, 10] (fun i bb wr => ∃ k : Nat, i = .int .i64 k ∧ k ≤ L.length ∧ bb = .int .i64 (bestI isCl areaF (ndAt L) k) ∧ Hid (wr.ownsRow (w.alloc (.cells #[.int .i16 a, .int .i16 b, .int .i8 c, .int .i8 d, .int .i8 e] 27 (0, 0))).heap.size 78 6 (.slice (some ⟨gN, 0, none⟩) L.length cN) L.length (rowS L)) ∧ Hid (Orders wr (w.alloc (.cells #[.int .i16 a, .int .i16 b, .int .i8 c, .int .i8 d, .int .i8 e] 27 (0, 0))).heap.size L) ∧ Hid (Below w.heap.size w wr)) (fun i _ _ => L.length - (intOf i).toNat)
    case atStart => exact ⟨0, rfl, by omega, rfl, HO, HR, HB⟩
    case round =>
      obtain ⟨k, rfl, hk, rfl, hO, hR, hB⟩ := hrel
      have hbi := bestI_eq (p := isCl) (f := areaF) (g := ndAt L) (ndAt_all L) k (by rw [List.length_map]; exact hk)
      by_cases hlt : k < L.length
      · have d1 : decide ((k : Int) < (L.length : Int)) = true := by simp; omega
        have k0 : (0 : Int) ≤ (k : Int) := by omega
        have k1 : (k : Int) < (L.length : Int) := by omega
        obtain ⟨⟨⟨x, od⟩, vo⟩, hLk⟩ : ∃ z, L[k]? = some z := ⟨_, List.getElem?_eq_getElem hlt⟩
        have hok := (HOK.out ⟨x, od⟩ (by rw [← HNL.out]; exact List.mem_of_getElem? (by rw [List.getElem?_map, hLk]; rfl))).1
        have e0 := (own_get hO.out (rowS_get hLk (j := 0) rfl)).1
        have e1 := (own_get hO.out (rowS_get hLk (j := 1) rfl)).1
        have e2 := (own_get hO.out (rowS_get hLk (j := 2) rfl)).1
        have e3 := (own_get hO.out (rowS_get hLk (j := 3) rfl)).1
        have e4 := (own_get hO.out (rowS_get hLk (j := 4) rfl)).1
        simp only [Nat.add_zero] at e0 e1 e2 e3 e4
        have hnk := ndAt_get hLk
        have HB1 : Hid (bestI isCl areaF (ndAt L) (k + 1) = if isCl (ndAt L k) = true ∧ (bestI isCl areaF (ndAt L) k < 0 ∨ areaF (ndAt L k) < areaF (ndAt L (bestI isCl areaF (ndAt L) k).toNat)) then (k : Int) else bestI isCl areaF (ndAt L) k) := rfl
        rw [hnk] at HB1
        clear hLk hnk
        by_cases hc : x.c = 0
        · have dc : (x.c == 0) = true := by simpa using hc
          have hcl : isCl ⟨x, od⟩ = true := dc
          rcases hbi with ⟨hb1, _⟩ | ⟨hb1, hb2, _⟩
          · rw [hb1] at HB1 ⊢
            have HX : Hid (bestI isCl areaF (ndAt L) (k + 1) = (k : Int)) := HB1.out.trans (if_pos ⟨hcl, .inl (by omega)⟩)
            clear hc hcl hb1 HB1
            go_wp2
            go_quiet (fail)
            go_wp2
            go_roundw
            case rel => exact ⟨k + 1, by go_num, by omega, by rw [HX.out], hO, hR, below_drewN hB.out _⟩
            case measure => simp [intOf]; omega
          · obtain ⟨m, hm⟩ := Int.eq_ofNat_of_zero_le hb1
            rw [hm] at HB1 hb2 ⊢
            have hmL : m < L.length := by omega
            obtain ⟨⟨⟨y, ye⟩, vy⟩, hLm⟩ : ∃ z, L[m]? = some z := ⟨_, List.getElem?_eq_getElem hmL⟩
            have hoy := (HOK.out ⟨y, ye⟩ (by rw [← HNL.out]; exact List.mem_of_getElem? (by rw [List.getElem?_map, hLm]; rfl))).1
            have g0 := (own_get hO.out (rowS_get hLm (j := 0) rfl)).1
            have g1 := (own_get hO.out (rowS_get hLm (j := 1) rfl)).1
            have g2 := (own_get hO.out (rowS_get hLm (j := 2) rfl)).1
            have g3 := (own_get hO.out (rowS_get hLm (j := 3) rfl)).1
            have g4 := (own_get hO.out (rowS_get hLm (j := 4) rfl)).1
            simp only [Nat.add_zero] at g0 g1 g2 g3 g4
            have hnm := ndAt_get hLm
            rw [Int.toNat_natCast, hnm] at HB1
            have m0 : (0 : Int) ≤ (m : Int) := by omega
            have m1 : (m : Int) < (L.length : Int) := by omega
            have dn : decide ((m : Int) < 0) = false := by simp
            clear hLm hnm
            by_cases hf : y.a * y.b < x.a * x.b
            · have dl : decide (y.a * y.b < x.a * x.b) = true := by simpa using hf
              have HX : Hid (bestI isCl areaF (ndAt L) (k + 1) = (k : Int)) := HB1.out.trans (if_pos ⟨hcl, .inr (by simp only [areaF]; omega)⟩)
              clear hc hcl hb1 hb2 hm HB1 hf
              have HA1 := Lib.hid (fun q' => c_l06Area gN (k * 6) x.a x.b x.c x.d x.e (wr.drewN q') ⟨e0, e1, e2, e3, e4⟩ hok.a hok.b)
              have HA2 := Lib.hid (fun q' => c_l06Area gN (m * 6) y.a y.b y.c y.d y.e (wr.drewN q') ⟨g0, g1, g2, g3, g4⟩ hoy.a hoy.b)
              clear e0 e1 e3 e4 g0 g1 g2 g3 g4
              go_wp2
              go_quiet (first | (go_at_call 48; (with_reducible exact Calls.quiet_of (HA1.out _))) | (go_at_call 48; (with_reducible exact Calls.quiet_of (HA2.out _))))
              go_wp2
              go_roundw
              case rel => exact ⟨k + 1, by go_num, by omega, by rw [HX.out], hO, hR, below_drewN hB.out _⟩
              case measure => simp [intOf]; omega
            · have dl : decide (y.a * y.b < x.a * x.b) = false := by simpa using hf
              have HX : Hid (bestI isCl areaF (ndAt L) (k + 1) = (m : Int)) := HB1.out.trans (if_neg (fun h => h.2.elim (fun h => by omega) (fun h => hf (by simp only [areaF] at h; omega))))
              clear hc hcl hb1 hb2 hm HB1 hf
              have HA1 := Lib.hid (fun q' => c_l06Area gN (k * 6) x.a x.b x.c x.d x.e (wr.drewN q') ⟨e0, e1, e2, e3, e4⟩ hok.a hok.b)
              have HA2 := Lib.hid (fun q' => c_l06Area gN (m * 6) y.a y.b y.c y.d y.e (wr.drewN q') ⟨g0, g1, g2, g3, g4⟩ hoy.a hoy.b)
              clear e0 e1 e3 e4 g0 g1 g2 g3 g4
              go_wp2
              go_quiet (first | (go_at_call 48; (with_reducible exact Calls.quiet_of (HA1.out _))) | (go_at_call 48; (with_reducible exact Calls.quiet_of (HA2.out _))))
              go_wp2
              go_roundw
              case rel => exact ⟨k + 1, by go_num, by omega, by rw [HX.out], hO, hR, below_drewN hB.out _⟩
              case measure => simp [intOf]; omega
        · have dc : (x.c == 0) = false := by simpa using hc
          have HX : Hid (bestI isCl areaF (ndAt L) (k + 1) = bestI isCl areaF (ndAt L) k) := HB1.out.trans (if_neg (fun h => by have := h.1; simp [isCl, hc] at this))
          clear hc HB1
          generalize bestI isCl areaF (ndAt L) k = bi at *
          clear hbi
          go_wp2
          go_quiet (fail)
          go_wp2
          go_roundw
          case rel => exact ⟨k + 1, by go_num, by omega, by rw [HX.out], hO, hR, below_drewN hB.out _⟩
          case measure => simp [intOf]; omega
      · obtain hkl : k = L.length := by omega
        subst hkl
        have d1 : decide ((L.length : Int) < (L.length : Int)) = false := by simp
        have htk : (L.map (·.1)).take L.length = nodesF a b c d e n p q r (m : Int) := by rw [← List.length_map (f := (·.1)), List.take_length, HNL.out]
        rw [htk] at hbi
        have hsz := hB.out.size
        rcases hbi with ⟨hb1, hb2⟩ | ⟨hb1, hb2, hb3⟩
        · have E := Lib.hid (bestR_none (f := areaF) HZ.out hb2)
          have dn : decide ((-1 : Int) < 0) = true := by simp
          have ho := heap_alloc_new wr (.cells #[] 2 (0, 0))
          have HOE := Lib.hid ho
          rw [hb1]
          clear hb1 hb2 htk ho
          go_wp2
          exact bodyPost_ret (v := .tuple #[.slice (some ⟨wr.heap.size, 0, none⟩) 0 0, .int .i64 0, .int .i64 6]) (by simp [results, Try.results15, go_sem]) rfl ⟨_, by rw [E.out]; rfl, by rw [E.out]; exact own_empty HOE.out hsz, below_alloc hB.out _⟩
        · obtain ⟨m2, hm⟩ := Int.eq_ofNat_of_zero_le hb1
          rw [hm] at hb2 hb3 ⊢
          have hmL : m2 < L.length := by omega
          obtain ⟨⟨⟨y, ye⟩, vy⟩, hLm⟩ : ∃ z, L[m2]? = some z := ⟨_, List.getElem?_eq_getElem hmL⟩
          have hoy := (HOK.out ⟨y, ye⟩ (by rw [← HNL.out]; exact List.mem_of_getElem? (by rw [List.getElem?_map, hLm]; rfl))).1
          have g0 := (own_get hO.out (rowS_get hLm (j := 0) rfl)).1
          have g1 := (own_get hO.out (rowS_get hLm (j := 1) rfl)).1
          have g2 := (own_get hO.out (rowS_get hLm (j := 2) rfl)).1
          have g3 := (own_get hO.out (rowS_get hLm (j := 3) rfl)).1
          have g4 := (own_get hO.out (rowS_get hLm (j := 4) rfl)).1
          have g5 := (own_get hO.out (rowS_get hLm (j := 5) rfl)).1
          simp only [Nat.add_zero] at g0 g1 g2 g3 g4 g5
          rw [Int.toNat_natCast, ndAt_get hLm] at hb3
          have E := Lib.hid (bestR_some (f := areaF) HZ.out hb3)
          have HOV := Lib.hid (hR.out _ (List.mem_of_getElem? hLm))
          have m0 : (0 : Int) ≤ (m2 : Int) := by omega
          have m1 : (m2 : Int) < (L.length : Int) := by omega
          have dn : decide ((m2 : Int) < 0) = false := by simp
          clear hLm hb1 hb2 hb3 hm htk
          have HA2 := Lib.hid (fun q' => c_l06Area gN (m2 * 6) y.a y.b y.c y.d y.e (wr.drewN q') ⟨g0, g1, g2, g3, g4⟩ hoy.a hoy.b)
          clear g0 g1 g2 g3 g4
          go_wp2
          go_quiet ((go_at_call 48; (with_reducible exact Calls.quiet_of (HA2.out _))))
          go_wp2
          exact bodyPost_ret (v := .tuple #[vy, .int .i64 (y.a * y.b), .int .i64 0]) (by simp [results, Try.results15, go_sem]) rfl ⟨_, by rw [E.out], by rw [E.out]; exact own_mono (show (wr.drewN _).ownsRow _ _ _ _ _ _ from HOV.out) hbs, below_drewN hB.out _⟩
  · have dz : (mostF a b c d e n p q r M != 0) = true := by simpa using hz
    have E := Lib.hid (bestR_no (f := areaF) hz)
    have ho := heap_alloc_new (w.alloc (.cells #[.int .i16 a, .int .i16 b, .int .i8 c, .int .i8 d, .int .i8 e] 27 (0, 0))) (.cells #[] 2 (0, 0))
    simp only [World.size_alloc] at ho
    have HOE := Lib.hid ho
    clear ho hz
    go_enter Try.func15, Try.ntmps15
    go_wp2_with (go_at_call 43; ((with_reducible refine CM.out.mono ?_); rintro u w1 ⟨rfl, rfl⟩))
    exact bodyPost_ret (v := .tuple #[.slice (some ⟨w.heap.size + 1, 0, none⟩) 0 0, .int .i64 0, .int .i64 (mostF a b c d e n p q r M)]) (by simp [results, Try.results15, go_sem]) rfl ⟨_, by rw [E.out]; rfl, by rw [E.out]; exact own_empty HOE.out (by omega), by (repeat (first | with_reducible exact Below.refl _ _ | with_reducible refine below_alloc ?_ _ | with_reducible refine below_drew ?_ | with_reducible refine below_drewN ?_ _ | with_reducible refine below_then ?_ (by assumption)))⟩
end Go.Proofs.Ytdmcemhckalhkaa
