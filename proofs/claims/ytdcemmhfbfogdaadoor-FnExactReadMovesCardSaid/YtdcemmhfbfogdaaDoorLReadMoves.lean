/- The law on reading moves. -/
import Derived.Test.YtdcemmhfbfogdaaDoorMvImpl
namespace Go.Proofs.YtdcemmhfbfogdaaDoor
open Go.RowKit
set_option linter.unusedVariables false
set_option linter.unusedSimpArgs false
set_option maxRecDepth 100000

theorem str_allM (a : ByteArray) : ∃ t : List UInt8, a = str t := ⟨a.data.toList, (str_of_data a).symm⟩
set_option maxHeartbeats 8000000 in
theorem walk_FnExactReadMoves (W : World) (a0 : ByteArray) (w0 : a0.size ≤ 140737488351232) (hL : Laid W) :
    Calls Tryd.prog 6 #[.string a0] W fun e w' => e = .returned (.bool true) ∧ Below W.heap.size W w' := by
  obtain ⟨t, rfl⟩ := str_allM a0
  have hsz : (str t).size = t.length := str_size t
  by_cases hlen : t.length ≤ 1048576
  · have dl : decide ((1048576 : Int) < (t.length : Int)) = false := by simp; omega
    have CSP := Lib.hid (c_sReadMoves t hlen W)
    have CIM := Lib.hid (fun w hb => c_iReadMoves t hlen w (hL.below hb))
    have hLE := rdML_le t
    have HLE : Hid ((rdML t).length ≤ 1048576) := Nat.le_trans hLE (by decide)
    clear hL
    unfold MvEnd at CSP CIM
    generalize rdML t = L at *
    generalize rdMK t = K at *
    have qm : decide ((1 : Int) + ((L.length * 3 : Nat) : Int) < 0) = false := by simp; omega
    have sc := Lib.hid True.intro
    go_enter Tryd.func6, Tryd.ntmps6
    go_wp2_with (first
      | (go_at_call 21; ((with_reducible refine CSP.out.mono ?_); rintro e w1 ⟨v, rfl, hO, hb⟩; have HB := Lib.hid hb; have HV := Lib.hid hO; clear hb hO CSP))
      | (go_at_call 22; clear sc; ((refine (CIM.out _ HB.out).mono ?_); rintro e w2 ⟨u, rfl, hO, hb⟩; have AVU := Lib.hid (apart_of (own_lo HV.out (Nat.le_refl _)) (own_up hO)); have hO := own_mono hO HB.out.size; have HB := Lib.hid (below_then HB.out hb); have HV := Lib.hid (own_below HV.out hb); have HU := Lib.hid hO; clear hO hb))
      | (go_at_call 22; ((refine (CIM.out _ HB.out).mono ?_); rintro e w2 ⟨u2, rfl, hO, hb⟩; have hO := own_mono hO HB.out.size; have HB := Lib.hid (below_then HB.out hb); have HV := Lib.hid (own_below HV.out hb); have HU := Lib.hid (own_below HU.out hb); have HH := Lib.hid hO; clear hO hb))
      | (go_at_call 20; ((with_reducible refine (c_eqOwnMove _ _ _ _ L _ HH.out HV.out HLE.out).mono ?_); rintro e w3 ⟨rfl, hb⟩; have HB := Lib.hid (below_then HB.out hb); have HU := Lib.hid (own_below HU.out hb); have HV := Lib.hid (own_below HV.out hb); clear hb HH))
      | (go_at_call 20; ((with_reducible refine (c_eqOwnMove _ _ _ _ L _ HU.out HV.out HLE.out).mono ?_); rintro e w3 ⟨rfl, hb⟩; have HB := Lib.hid (below_then HB.out hb); have HU := Lib.hid (own_below HU.out hb); have HV := Lib.hid (own_below HV.out hb); clear hb))
      | (go_at_call 23; ((with_reducible refine (c_markMove1 _ _ _ _ _ HU.out HLE.out).mono ?_); rintro e w4 ⟨rfl, hO, ht⟩; have HB := Lib.hid (HB.out.trans (ht.below (own_up hO))); have HV := Lib.hid (own_touV HV.out ht AVU.out.ne); have HU := Lib.hid hO; clear hO ht))
      | (go_at_call 24; ((with_reducible refine (c_heldMove1 _ _ _ _ HU.out HLE.out).mono ?_); rintro e w5 ⟨rfl, rfl⟩)))
    go_ret
    exact ⟨rfl, HB.out⟩
  · have dl : decide ((1048576 : Int) < (t.length : Int)) = true := by simp; omega
    go_enter Tryd.func6, Tryd.ntmps6
    go_wp2
    go_ret
    exact ⟨rfl, Below.refl _ _⟩
end Go.Proofs.YtdcemmhfbfogdaaDoor
