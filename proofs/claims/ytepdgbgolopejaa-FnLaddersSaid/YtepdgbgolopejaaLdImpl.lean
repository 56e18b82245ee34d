/- The program's ladders, worst loop and the stitch that takes a loop. -/
import Derived.Test.YtepdgbgolopejaaLdSpec
import Derived.Deep.RegionHeld3
import Derived.Deep.RegionWith
import Derived.BigRegion
namespace Go.Proofs.Ytepdgbgolopejaa
open Go.RowKit
set_option linter.unusedVariables false
set_option linter.unusedSimpArgs false
set_option maxRecDepth 100000

theorem c_lenLoop (A : Option Addr) (n c : Nat) (w : World) : Calls Try.prog 28 #[.slice A n c] w fun u w' => u = .returned (.int .i64 (n : Int)) ∧ w = w' := by
  go_enter Try.func28, Try.ntmps28
  go_wp2
  go_ret
  exact ⟨rfl, rfl⟩
set_option maxHeartbeats 1000000 in
theorem c_iLadderOf (a : Nat) (cast : Int) (A : Option Addr) (cap : Nat) (L : List (List UInt8)) (w : World) (hF : FabAt w cast A cap L) (hok : fabOk cast L = true) (ha : a < widN cast L L.length) :
    Calls Try.prog 9 #[.agg #[.int .i16 cast, .slice A L.length cap], .int .i64 (a : Int)] w fun e w' => ∃ v, e = .returned (.tuple #[v, .int .i64 0]) ∧ w'.ownsRow w.heap.size 39 2 v (ladU L a (L.length + 1)).length (lpRow (ladU L a (L.length + 1))) ∧ Below w.heap.size w w' := by
  have hb0 : Below w.heap.size w (w.alloc (.cells #[.int .i16 cast, .slice A L.length cap] 27 (0, 0))) := below_alloc (Below.refl _ _) _
  have HA := Lib.hid (heap_alloc_new w (.cells #[.int .i16 cast, .slice A L.length cap] 27 (0, 0)))
  have hV := fabV_of hok
  have CV := Lib.hid (hok ▸ c_ValidFabric cast A cap L _ (hF.below hb0))
  have CL := Lib.hid (fun w' h => c_last cast A cap L w' h hV)
  have CD := Lib.hid (fun w' h => c_ladder a cast A cap L w' h hV ha)
  have HB0 := Lib.hid hb0
  have HF := Lib.hid (hF.below hb0)
  have hw60 := hV.wid L.length (Nat.le_refl _)
  have hq : inB (a : Int) 0 ((widN cast L L.length : Int) - 1) = true := by simp [inB]; omega
  have CI := fun w => Lib.hid (hq ▸ c_within (a : Int) 0 ((widN cast L L.length : Int) - 1) w)
  have hn30 := hV.num
  clear hq hF hok hV ha hb0
  generalize widN cast L L.length = wd at *
  have hwp : IntKind.i64.wrap ((wd : Int) - 1) = (wd : Int) - 1 := IntWalk.i64_in _ (by omega)
  go_enter Try.func9, Try.ntmps9
  go_wp2_with (first
    | (go_at_call 26; ((with_reducible refine CV.out.mono ?_); rintro e w1 ⟨rfl, hb⟩; have HB1 := Lib.hid (below_then HB0.out hb); have HA1 := Lib.hid (blk_below HA.out hb); have HF1 := Lib.hid (HF.out.below hb); have y0 := blk_cell HA1.out 0; have y1 := blk_cell HA1.out 1; clear hb))
    | (go_at_call 27; ((with_reducible refine (CL.out _ HF1.out).mono ?_); rintro e w2 ⟨rfl, hb⟩; have HB2 := Lib.hid (below_then HB1.out hb); have HA2 := Lib.hid (blk_below HA1.out hb); have HF2 := Lib.hid (HF1.out.below hb); have z0 := blk_cell HA2.out 0; have z1 := blk_cell HA2.out 1; clear hb))
    | (go_at_call 32; ((with_reducible refine (CI _).out.mono ?_); rintro e w3 ⟨rfl, rfl⟩))
    | (go_at_call 29; ((refine (CD.out _ HF2.out).mono ?_); rintro e w4 ⟨v, rfl, hO, hb⟩; have HO4 := Lib.hid (own_mono hO HB2.out.size); have HB4 := Lib.hid (below_then HB2.out hb); clear hb hO)))
  exact bodyPost_ret (v := .tuple #[v, .int .i64 0]) (by simp [results, Try.results9, go_sem]) rfl ⟨v, rfl, HO4.out, HB4.out⟩
set_option maxHeartbeats 1000000 in
theorem c_iWorstLoop (cast : Int) (A : Option Addr) (cap : Nat) (L : List (List UInt8)) (w : World) (hF : FabAt w cast A cap L) (hok : fabOk cast L = true) (c : Int) (hc : c = if widN cast L L.length = 0 then 6 else 0) :
    Calls Try.prog 7 #[.agg #[.int .i16 cast, .slice A L.length cap]] w fun e w' => e = .returned (worstT (worstP (ladN L) (widN cast L L.length)) c) ∧ Below w.heap.size w w' := by
  have hb0 : Below w.heap.size w (w.alloc (.cells #[.int .i16 cast, .slice A L.length cap] 27 (0, 0))) := below_alloc (Below.refl _ _) _
  have HA := Lib.hid (heap_alloc_new w (.cells #[.int .i16 cast, .slice A L.length cap] 27 (0, 0)))
  have hV := fabV_of hok
  have CV := Lib.hid (hok ▸ c_ValidFabric cast A cap L _ (hF.below hb0))
  have CL := Lib.hid (fun w' h => c_last cast A cap L w' h hV)
  have CD := Lib.hid (fun a w' h ha => ladN_U L a ▸ c_ladder a cast A cap L w' h hV ha)
  have HB0 := Lib.hid hb0
  have HF := Lib.hid (hF.below hb0)
  have hw60 := hV.wid L.length (Nat.le_refl _)
  have HC : Hid (c = if widN cast L L.length = 0 then 6 else 0) := hc
  clear hF hok hV hb0 hc
  generalize widN cast L L.length = W at *
  have HN : Hid (∀ k, ladN L k = ladN L k) := fun _ => rfl
  generalize ladN L = f at *
  have st0 := Lib.hid True.intro
  by_cases h0 : W = 0
  · subst h0
    go_enter Try.func7, Try.ntmps7
    go_wp2_with (first
      | (go_at_call 26; ((with_reducible refine CV.out.mono ?_); rintro e w1 ⟨rfl, hb⟩; have HB1 := Lib.hid (below_then HB0.out hb); have HA1 := Lib.hid (blk_below HA.out hb); have HF1 := Lib.hid (HF.out.below hb); have y0 := blk_cell HA1.out 0; have y1 := blk_cell HA1.out 1; clear hb))
      | (go_at_call 27; ((with_reducible refine (CL.out _ HF1.out).mono ?_); rintro e w2 ⟨rfl, hb⟩; have HB2 := Lib.hid (below_then HB1.out hb); clear hb)))
    exact bodyPost_ret (v := .tuple #[.int .i64 0, .int .i64 0, .int .i64 6]) (by simp [results, Try.results7, go_sem]) rfl ⟨by have := HC.out; simp at this; rw [this]; rfl, HB2.out⟩
  · have HT : Hid (c = 0) := HC.out.trans (if_neg h0)
    clear HC
    go_enter Try.func7, Try.ntmps7
    go_wp2_with (first
      | (go_at_call 26; ((with_reducible refine CV.out.mono ?_); rintro e w1 ⟨rfl, hb⟩; have HB1 := Lib.hid (below_then HB0.out hb); have HA1 := Lib.hid (blk_below HA.out hb); have HF1 := Lib.hid (HF.out.below hb); have y0 := blk_cell HA1.out 0; have y1 := blk_cell HA1.out 1; clear hb))
      | (go_at_call 27; clear st0; ((with_reducible refine (CL.out _ HF1.out).mono ?_); rintro e w2 ⟨rfl, hb⟩; have HB2 := Lib.hid (below_then HB1.out hb); have HA2 := Lib.hid (blk_below HA1.out hb); have HF2 := Lib.hid (HF1.out.below hb); have z0 := blk_cell HA2.out 0; have z1 := blk_cell HA2.out 1; clear hb))
      | (go_at_call 27; ((with_reducible refine (CL.out _ HF2.out).mono ?_); rintro e w3 ⟨rfl, hb⟩; have HB3 := Lib.hid (below_then HB2.out hb); have HA3 := Lib.hid (blk_below HA2.out hb); have HF3 := Lib.hid (HF2.out.below hb); clear hb)))
    clear HB0 HB1 HB2 HA HA1 HA2 HF HF1 HF2 y0 y1 z0 z1 CV CL
    go_loopw [5, 6, 19] (fun b m a wr => ∃ k : Nat, k ≤ W ∧ b = .int .i64 ((worstP f k).1 : Int) ∧ m = .int .i64 ((worstP f k).2 : Int) ∧ a = .int .i64 (k : Int) ∧ Hid (Below w.heap.size w wr) ∧ Hid (FabAt wr cast A cap L) ∧ Hid (wr.heap[w.heap.size]? = some (.cells #[.int .i16 cast, .slice A L.length cap] 27 (0, 0)))) (fun _ _ a _ => W - (intOf a).toNat)
    case atStart => exact ⟨0, by omega, rfl, rfl, rfl, HB3, HF3, HA3⟩
    case round =>
      clear HB3 HF3 HA3
      obtain ⟨k, hk, rfl, rfl, rfl, HB, HF, HA⟩ := hrel
      by_cases hlt : k < W
      · have hk60 : (k : Int) < 60 := by omega
        have d2 : decide ((k : Int) < (W : Int)) = true := by simp; omega
        have hW : worstP f (k + 1) = if (worstP f k).2 < f k then (k, f k) else worstP f k := rfl
        have y0 := blk_cell HA.out 0
        have y1 := blk_cell HA.out 1
        generalize worstP f k = p at *
        obtain ⟨pb, pm⟩ := p
        by_cases hc : pm < f k
        · have hW' : Hid (worstP f (k + 1) = (k, f k)) := hW.trans (if_pos hc)
          have d1 : decide ((pm : Int) < (f k : Int)) = true := by simp; omega
          go_wp2_with (first
            | (go_at_call 29; ((refine (CD.out k _ HF.out hlt).mono ?_); rintro e w5 ⟨v, rfl, hO, hb⟩; obtain ⟨A1, c1, rfl, -⟩ := own_form hO; have HB5 := Lib.hid (below_then HB.out hb); have HA5 := Lib.hid (blk_below HA.out hb); have HF5 := Lib.hid (HF.out.below hb); clear hb hO))
            | (go_at_call 28; ((with_reducible refine (c_lenLoop _ _ _ _).mono ?_); rintro e w6 ⟨rfl, rfl⟩)))
          go_roundw
          case rel => exact ⟨k + 1, by omega, by rw [hW'.out], by rw [hW'.out], by go_num, HB5, HF5, HA5⟩
          case measure => simp [intOf]; omega
        · have hW' : Hid (worstP f (k + 1) = (pb, pm)) := hW.trans (if_neg hc)
          have d1 : decide ((pm : Int) < (f k : Int)) = false := by simp; omega
          go_wp2_with (first
            | (go_at_call 29; ((refine (CD.out k _ HF.out hlt).mono ?_); rintro e w5 ⟨v, rfl, hO, hb⟩; obtain ⟨A1, c1, rfl, -⟩ := own_form hO; have HB5 := Lib.hid (below_then HB.out hb); have HA5 := Lib.hid (blk_below HA.out hb); have HF5 := Lib.hid (HF.out.below hb); clear hb hO))
            | (go_at_call 28; ((with_reducible refine (c_lenLoop _ _ _ _).mono ?_); rintro e w6 ⟨rfl, rfl⟩)))
          go_roundw
          case rel => exact ⟨k + 1, by omega, by rw [hW'.out], by rw [hW'.out], by go_num, HB5, HF5, HA5⟩
          case measure => simp [intOf]; omega
      · obtain rfl : k = W := by omega
        have d2 : decide ((k : Int) < (k : Int)) = false := by simp
        generalize hp : worstP f k = p at *
        have HPP := Lib.hid hp
        clear hp
        obtain ⟨pb, pm⟩ := p
        go_wp2
        exact bodyPost_ret (v := .tuple #[.int .i64 (pb : Int), .int .i64 (pm : Int), .int .i64 0]) (by simp [results, Try.results7, go_sem]) rfl ⟨by rw [HT.out, HPP.out], HB.out⟩
set_option maxHeartbeats 1000000 in
theorem c_gt1 (tk mk yn fr to x : Int) (r : Int) (b : Nat) (w : World) (h0 : 0 ≤ fr ∧ fr ≤ 1000) (h1 : 0 ≤ tk ∧ tk ≤ 1000) (h2 : 0 ≤ x ∧ x ≤ 1000) (hc : w.heap[b]? = some (.cells #[.int .i16 r, .int .i16 x] 39 (0, 0))) :
    Calls Try.prog 36 #[.agg #[.int .i64 tk, .int .i64 mk, .int .i64 yn, .int .i64 fr, .int .i64 to], .pointer (some ⟨b, 0, none⟩)] w fun e w' => e = .returned (.bool (inB x fr (fr + tk - 1))) ∧ Below w.heap.size w w' := by
  have hb0 : Below w.heap.size w (w.alloc (.cells #[.int .i64 tk, .int .i64 mk, .int .i64 yn, .int .i64 fr, .int .i64 to] 73 (0, 0))) := below_alloc (Below.refl _ _) _
  have hX := blk_below hc hb0
  have c1 := blk_cell hX 1
  have CI := fun w => Lib.hid (c_within x fr (fr + tk - 1) w)
  have hlt := blk_lt hc
  have hne : ¬ b = w.heap.size := by omega
  go_enter Try.func36, Try.ntmps36
  go_wp2_with (first
    | (go_at_call 32; ((with_reducible refine (CI _).out.mono ?_); rintro e w3 ⟨rfl, rfl⟩)))
  exact bodyPost_ret (v := .bool (inB x fr (fr + tk - 1))) (by simp [results, Try.results36, go_sem]) rfl ⟨rfl, hb0⟩
set_option maxHeartbeats 1000000 in
theorem c_indexMade (A : Option Addr) (base b c x : Nat) (r : Int) (l : List UInt8) (w : World) (h : w.ownsRow base 73 5 (.slice A l.length c) l.length (stiRow l l.length)) (hn : l.length ≤ 1000) (hs : ∃ a, rowS l = some a) (hx : x < tkS l) (h60 : tkS l ≤ 60) (h61 : mkS l ≤ 60) (hc : w.heap[b]? = some (.cells #[.int .i16 r, .int .i16 (x : Int)] 39 (0, 0))) :
    Calls Try.prog 35 #[.slice A l.length c, .func (.func 36) #[] #[.pointer (some ⟨b, 0, none⟩)]] w fun e w' => ∃ z : Int, e = .returned (.int .i64 z) ∧ 0 ≤ z ∧ Below w.heap.size w w' := by
  obtain ⟨sv, hsv⟩ := hs
  have hst : Hid (∀ (j : Nat) (h : j < l.length), ∃ s, stT l[j] = some s) := fun j h => rowS_st hsv h
  have H := Lib.hid h
  have HC := Lib.hid hc
  have HX := Lib.hid hx
  have hl0 : l ≠ [] := fun e => by rw [e] at hx; simp [tkS] at hx
  have hlp : 0 < l.length := List.length_pos_iff.2 hl0
  obtain ⟨A1, c1, e1, hA⟩ := own_form h
  have hAA : A = A1 := by cases e1; rfl
  subst hAA
  obtain ⟨g, rfl, -⟩ := hA (by omega)
  have hx60 : x < 60 := by omega
  clear h hc hsv sv hx hl0 hlp hA e1
  go_enter Try.func35, Try.ntmps35
  go_wp2
  go_loopw [8] (fun i wr => ∃ k : Nat, k ≤ l.length ∧ i = .int .i64 k ∧ Hid (tkS (l.take k) ≤ x) ∧ Hid (Below w.heap.size w wr)) (fun i _ => l.length + 1 - (intOf i).toNat)
  case atStart => exact ⟨0, by omega, rfl, by simp [Hid, tkS], Below.refl _ _⟩
  case round =>
    obtain ⟨k, hk, rfl, hT, hB⟩ := hrel
    by_cases hkn : k < l.length
    · have d1 : decide ((k : Int) < (l.length : Int)) = true := by simp; omega
      have k0 : (0 : Int) ≤ (k : Int) := by omega
      have k1 : (k : Int) < (l.length : Int) := by omega
      have hgd := getD_u8 hkn
      have HI := own_below H.out hB.out
      have y0 := (own_get HI ((stiRow_get l l.length k hkn 0 (by omega)).trans rfl)).1
      have y1 := (own_get HI ((stiRow_get l l.length k hkn 1 (by omega)).trans rfl)).1
      have y2 := (own_get HI ((stiRow_get l l.length k hkn 2 (by omega)).trans rfl)).1
      have y3 := (own_get HI ((stiRow_get l l.length k hkn 3 (by omega)).trans rfl)).1
      have y4 := (own_get HI ((stiRow_get l l.length k hkn 4 (by omega)).trans rfl)).1
      rw [hgd] at y0 y1 y2
      have htS := tkS_take hkn
      have htL := takS_le l (k + 1)
      have hmL := makS_le l k
      have hT2 := hT.out
      have HTS := Lib.hid htS
      clear HI hgd
      rw [Nat.add_zero] at y0
      have CC := Lib.hid (c_gt1 (tkN l[k] : Int) (mkN l[k] : Int) (stV l[k]).2.2 (tkS (l.take k) : Int) (mkS (l.take k) : Int) (x : Int) r b wr (by omega) (by omega) (by omega) (blk_below HC.out hB.out))
      generalize tkS (l.take k) = fr at *
      generalize mkS (l.take k) = to at *
      generalize tkN l[k] = tn at *
      generalize mkN l[k] = mn at *
      generalize (stV l[k]).2.2 = yn at *
      have k5 : (k : Int) * 5 = ((k * 5 : Nat) : Int) := by omega
      by_cases hin : x < fr + tn
      · have hq : inB (x : Int) (fr : Int) ((fr : Int) + (tn : Int) - 1) = true := by simp [inB]; omega
        rw [hq] at CC
        clear hq hT2 htS htL hmL
        go_wp2_with (go_at_call 36; ((refine CC.out.mono ?_); rintro e w1 ⟨rfl, hb⟩; have HB1 := Lib.hid (below_then hB.out hb); clear hb))
        exact bodyPost_ret (v := .int .i64 (k : Int)) (by simp [results, Try.results35, go_sem]) rfl ⟨_, rfl, by omega, HB1.out⟩
      · have hq : inB (x : Int) (fr : Int) ((fr : Int) + (tn : Int) - 1) = false := by simp [inB]; omega
        rw [hq] at CC
        have HT1 : Hid (tkS (l.take (k + 1)) ≤ x) := by rw [Hid, HTS.out]; omega
        clear hq hT2 htS htL hmL
        go_wp2_with (go_at_call 36; ((refine CC.out.mono ?_); rintro e w1 ⟨rfl, hb⟩; have HB1 := Lib.hid (below_then hB.out hb); clear hb))
        go_roundw
        case rel => exact ⟨k + 1, by omega, by go_num, HT1, HB1⟩
        case measure => simp [intOf]; omega
    · exfalso
      obtain rfl : k = l.length := by omega
      have h1 := hT.out
      rw [List.take_length] at h1
      have := HX.out
      omega
end Go.Proofs.Ytepdgbgolopejaa
