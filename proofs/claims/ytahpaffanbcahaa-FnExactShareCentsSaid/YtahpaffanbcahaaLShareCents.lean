/- The law on cents shared by grams. -/
import Derived.Test.YtahpaffanbcahaaShareImpl
namespace Go.Proofs.Ytahpaffanbcahaa
open Go.RowKit
set_option linter.unusedVariables false
set_option linter.unusedSimpArgs false
set_option maxRecDepth 100000

set_option maxHeartbeats 2000000 in
theorem walk_FnExactShareCents (W : World) (a0 : Int) (w0 : (Lit.int .i64 a0).wf = true) (A1 : Option Addr) (cap1 : Nat) (a1 : List Int) (w1 : ∀ z ∈ a1, (Lit.int .i64 z).wf = true) (r1 : RdRow W A1 (nums .i64 a1)) (s1 : a1.length * 8 ≤ 140737488351232) (m1 : a1.length ≤ maxLen) :
    Calls Try.prog 3 #[.int .i64 a0, .slice A1 a1.length cap1] W fun e w' => e = .returned (.bool true) ∧ Below W.heap.size W w' := by
  have HZ1 := Lib.hid (gi_bd64 w1)
  have hm1 : a1.length ≤ 9223372036854775807 := by omega
  have hL1 := r1
  obtain ⟨n1, hl1⟩ : ∃ n, a1.length = n := ⟨_, rfl⟩
  rw [hl1] at hm1 s1 m1 ⊢
  have HL1 := Lib.hid hl1
  have hbw : Below W.heap.size W W := Below.refl _ _
  have HBW := Lib.hid hbw
  have H1 := Lib.hid (hL1.below hbw)
  have HB : Hid (Below W.heap.size W W) := Below.refl _ _
  clear hbw w1 r1 hl1 s1 m1 hL1
  by_cases hn1 : n1 ≤ 1048576
  · have dl1 : decide ((1048576 : Int) < (n1 : Int)) = false := by simp; omega
    have HLE : Hid ((shareF a0 a1 n1).1.length ≤ 1048576) := share_le a0 a1 n1 hn1
    have qm : decide ((1 : Int) + (((shareF a0 a1 n1).1.length : Nat) : Int) < 0) = false := by simp; omega
    have sa1 := Lib.hid True.intro
    have sc := Lib.hid True.intro
    go_enter Try.func3, Try.ntmps3
    go_wp2_with (first
      | (go_at_call 5; clear sa1; ((with_reducible refine (c_toInt64X A1 n1 cap1 a1 _ (H1.out.below HB.out) HL1.out hn1).mono ?_); rintro e w1 ⟨b, xs, rfl, hL, hO, hb⟩; have HB := Lib.hid (below_then HB.out hb); (try have HT1 := Lib.hid (HT1.out.below hb)); (try have HX1 := Lib.hid (HX1.out.below hb)); (try have HC1 := Lib.hid (HC1.out.below hb)); (try have HR1 := Lib.hid (own_below HR1.out hb)); (try have HV := Lib.hid (own_below HV.out hb)); (try have HU := Lib.hid (own_below HU.out hb)); clear hb; have HT1 := Lib.hid hL; clear hL hO))
      | (go_at_call 5; clear sb1; ((with_reducible refine (c_toInt64X A1 n1 cap1 a1 _ (H1.out.below HB.out) HL1.out hn1).mono ?_); rintro e w1 ⟨b, xs, rfl, hL, hO, hb⟩; have AV1 := Lib.hid (apart_of (own_lo HV.out (Nat.le_refl _)) (own_up hO)); have hO := own_mono hO HB.out.size; have HB := Lib.hid (below_then HB.out hb); (try have HT1 := Lib.hid (HT1.out.below hb)); (try have HX1 := Lib.hid (HX1.out.below hb)); (try have HC1 := Lib.hid (HC1.out.below hb)); (try have HR1 := Lib.hid (own_below HR1.out hb)); (try have HV := Lib.hid (own_below HV.out hb)); (try have HU := Lib.hid (own_below HU.out hb)); clear hb; have HX1 := Lib.hid hL; have HR1 := Lib.hid hO; clear hL hO))
      | (go_at_call 5; ((with_reducible refine (c_toInt64X A1 n1 cap1 a1 _ (H1.out.below HB.out) HL1.out hn1).mono ?_); rintro e w1 ⟨b, xs, rfl, hL, hO, hb⟩; have HB := Lib.hid (below_then HB.out hb); (try have HT1 := Lib.hid (HT1.out.below hb)); (try have HX1 := Lib.hid (HX1.out.below hb)); (try have HC1 := Lib.hid (HC1.out.below hb)); (try have HR1 := Lib.hid (own_below HR1.out hb)); (try have HV := Lib.hid (own_below HV.out hb)); (try have HU := Lib.hid (own_below HU.out hb)); clear hb; have HC1 := Lib.hid hL; clear hL hO))
      | (go_at_call 4; clear sc; ((with_reducible refine (c_sShareCents _ n1 _ a1 a0 _ HT1.out HL1.out hn1 HZ1.out).mono ?_); rintro e w1 ⟨v, rfl, hO, hb⟩; have hO := own_mono hO HB.out.size; have HB := Lib.hid (below_then HB.out hb); (try have HT1 := Lib.hid (HT1.out.below hb)); (try have HX1 := Lib.hid (HX1.out.below hb)); (try have HC1 := Lib.hid (HC1.out.below hb)); (try have HR1 := Lib.hid (own_below HR1.out hb)); (try have HV := Lib.hid (own_below HV.out hb)); (try have HU := Lib.hid (own_below HU.out hb)); clear hb; have HV := Lib.hid hO; clear hO; have sb1 := Lib.hid True.intro; clear HT1))
      | (go_at_call 6; have KU := HU; ((with_reducible refine (c_iShareCents _ n1 _ a1 a0 _ HC1.out HL1.out hn1).mono ?_); rintro e w1 ⟨v3, rfl, hO, hb⟩; have HB := Lib.hid (below_then HB.out hb); (try have HT1 := Lib.hid (HT1.out.below hb)); (try have HX1 := Lib.hid (HX1.out.below hb)); (try have HC1 := Lib.hid (HC1.out.below hb)); (try have HR1 := Lib.hid (own_below HR1.out hb)); (try have HV := Lib.hid (own_below HV.out hb)); (try have HU := Lib.hid (own_below HU.out hb)); clear hb; have HH := Lib.hid hO; clear hO KU))
      | (go_at_call 6; ((with_reducible refine (c_iShareCents _ n1 _ a1 a0 _ HX1.out HL1.out hn1).mono ?_); rintro e w1 ⟨v2, rfl, hO, hb⟩; have AU1 := Lib.hid (apart_of (own_lo HR1.out (Nat.le_refl _)) (own_up hO)); have AVU := Lib.hid (apart_of (own_lo HV.out (Nat.le_refl _)) (own_up hO)); have hO := own_mono hO HB.out.size; have HB := Lib.hid (below_then HB.out hb); (try have HT1 := Lib.hid (HT1.out.below hb)); (try have HX1 := Lib.hid (HX1.out.below hb)); (try have HC1 := Lib.hid (HC1.out.below hb)); (try have HR1 := Lib.hid (own_below HR1.out hb)); (try have HV := Lib.hid (own_below HV.out hb)); (try have HU := Lib.hid (own_below HU.out hb)); clear hb; have HU := Lib.hid hO; clear hO))
      | (go_at_call 7; ((with_reducible refine (c_eqInt64S _ _ n1 _ _ a1 _ HX1.out HC1.out HL1.out hn1).mono ?_); rintro e w1 ⟨rfl, hb⟩; have HB := Lib.hid (below_then HB.out hb); (try have HT1 := Lib.hid (HT1.out.below hb)); (try have HX1 := Lib.hid (HX1.out.below hb)); (try have HC1 := Lib.hid (HC1.out.below hb)); (try have HR1 := Lib.hid (own_below HR1.out hb)); (try have HV := Lib.hid (own_below HV.out hb)); (try have HU := Lib.hid (own_below HU.out hb)); clear hb; clear HC1))
      | (go_at_call 7; ((with_reducible refine (c_eqOwn64 _ _ _ _ _ _ _ HH.out HV.out HLE.out).mono ?_); rintro e w1 ⟨rfl, hb⟩; have HB := Lib.hid (below_then HB.out hb); (try have HT1 := Lib.hid (HT1.out.below hb)); (try have HX1 := Lib.hid (HX1.out.below hb)); (try have HC1 := Lib.hid (HC1.out.below hb)); (try have HR1 := Lib.hid (own_below HR1.out hb)); (try have HV := Lib.hid (own_below HV.out hb)); (try have HU := Lib.hid (own_below HU.out hb)); clear hb))
      | (go_at_call 7; ((with_reducible refine (c_eqOwn64 _ _ _ _ _ _ _ HU.out HV.out HLE.out).mono ?_); rintro e w1 ⟨rfl, hb⟩; have HB := Lib.hid (below_then HB.out hb); (try have HT1 := Lib.hid (HT1.out.below hb)); (try have HX1 := Lib.hid (HX1.out.below hb)); (try have HC1 := Lib.hid (HC1.out.below hb)); (try have HR1 := Lib.hid (own_below HR1.out hb)); (try have HV := Lib.hid (own_below HV.out hb)); (try have HU := Lib.hid (own_below HU.out hb)); clear hb))
      | (go_at_call 8; ((with_reducible refine (c_markInt64E _ _ _ _ _ _ HR1.out hn1 ?_ ?_).mono ?_); (omega); (omega); rintro e w1 ⟨r1, rfl, ra1, rb1, ⟨ys, hO⟩, ht⟩; have dr1 : decide (r1 < 0) = false := (by simp; omega); have HB := Lib.hid (HB.out.trans (ht.below (own_up hO))); have HV := Lib.hid (own_touV HV.out ht AV1.out.ne); have HU := Lib.hid (own_touV HU.out ht AU1.out.symm.ne); clear hO ht HR1 HX1))
      | (go_at_call 8; ((with_reducible refine (c_markInt641 _ _ _ _ _ HU.out HLE.out).mono ?_); rintro e w1 ⟨rfl, hO, ht⟩; have HB := Lib.hid (HB.out.trans (ht.below (own_up hO))); have HV := Lib.hid (own_touV HV.out ht AVU.out.ne); have HU := Lib.hid hO; clear hO ht))
      | (go_at_call 9; ((with_reducible refine (c_heldInt641 _ _ _ _ HU.out HLE.out).mono ?_); rintro e w1 ⟨rfl, rfl⟩)))
    go_ret
    exact ⟨rfl, below_then HBW.out HB.out⟩
  · have dl1 : decide ((1048576 : Int) < (n1 : Int)) = true := by simp; omega
    go_enter Try.func3, Try.ntmps3
    go_wp2
    go_ret
    exact ⟨rfl, by (repeat (first | with_reducible exact Below.refl _ _ | with_reducible refine below_alloc ?_ _ | with_reducible refine below_drew ?_ | with_reducible refine below_drewN ?_ _ | with_reducible refine below_then ?_ (by assumption)))⟩
end Go.Proofs.Ytahpaffanbcahaa
