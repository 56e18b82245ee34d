/- The law on all spots. -/
import Derived.Test.YtcjpfgloemoobaaSpotRows
namespace Go.Proofs.Ytcjpfgloemoobaa
open Go.RowKit
set_option linter.unusedVariables false
set_option linter.unusedSimpArgs false
set_option maxRecDepth 100000

set_option maxHeartbeats 2000000 in
theorem walk_FnExactSpotsIn (W : World) (a0 : List Int) (l0 : a0.length = 8) (w0 : ∀ z ∈ a0, (Lit.int .u8 z).wf = true) :
    Calls Try.prog 11 #[.agg (nums .u8 a0).toArray] W fun e w' => e = .returned (.bool true) ∧ Below W.heap.size W w' := by
  have h8 := holes8 l0 w0
  have HI0 := Lib.hid (arr8_info h8)
  have H8 := Lib.hid h8
  have hbw : Below W.heap.size W (W.alloc (.cells (nums .u8 a0).toArray 35 (0, 0))) := below_alloc (Below.refl _ _) _
  have HBW := Lib.hid hbw
  have hA0 := heap_alloc_new W (.cells (nums .u8 a0).toArray 35 (0, 0))
  have HA0 : Hid ((W.alloc (.cells (nums .u8 a0).toArray 35 (0, 0))).heap[W.heap.size]? = some (.cells (nums .u8 a0).toArray 35 (0, 0))) := hA0
  have HB : Hid (Below (W.alloc (.cells (nums .u8 a0).toArray 35 (0, 0))).heap.size (W.alloc (.cells (nums .u8 a0).toArray 35 (0, 0))) (W.alloc (.cells (nums .u8 a0).toArray 35 (0, 0)))) := Below.refl _ _
  clear hbw h8 l0 w0 hA0
  obtain ⟨L, hL⟩ : ∃ L, (spotsN a0 64).1 = L := ⟨_, rfl⟩
  have hlen : L.length ≤ 64 := hL ▸ spotsN_len a0 64
  have HMV : Hid (∀ s ∈ L, Holes8 s) := hL ▸ spotsN_all8 64
  have cs := c_sSpotsIn a0 H8.out
  have ci := c_iSpotsIn a0 H8.out
  simp only [hL] at cs ci
  have CS := fun w => Lib.hid (cs w)
  have CI := fun w => Lib.hid (ci w)
  clear cs ci hL
  have HLE : Hid (L.length ≤ 1048576) := Nat.le_trans hlen (by omega)
  have qm : decide ((1 : Int) + ((L.length * 8 : Nat) : Int) < 0) = false := by simp; omega
  have sc := Lib.hid True.intro
  go_enter Try.func11, Try.ntmps11
  go_wp2_with (first
    | (refine wpList_load_row rfl 35 (.tmp 1) rfl (W.heap.size) rfl 35 _ (0, 0) _ (blk_below HA0.out HB.out) Try.underlying35 rfl HI0.out ?_)
    | (go_at_call 20; ((with_reducible refine (c_toHoles a0 _ H8.out).mono ?_); rintro e w1 ⟨rfl, hb⟩; have HB := Lib.hid (below_then HB.out hb); (try have HV := Lib.hid (own_below HV.out hb)); (try have HU := Lib.hid (own_below HU.out hb)); clear hb))
    | (go_at_call 36; clear sc; ((with_reducible refine ((CS _).out).mono ?_); rintro e w1 ⟨v, rfl, hO, hb⟩; have hO := own_mono hO HB.out.size; have HB := Lib.hid (below_then HB.out hb); (try have HV := Lib.hid (own_below HV.out hb)); (try have HU := Lib.hid (own_below HU.out hb)); clear hb; have HV := Lib.hid hO; clear hO))
    | (go_at_call 37; have KU := HU; ((with_reducible refine ((CI _).out).mono ?_); rintro e w1 ⟨v3, rfl, hO, hb⟩; have HB := Lib.hid (below_then HB.out hb); (try have HV := Lib.hid (own_below HV.out hb)); (try have HU := Lib.hid (own_below HU.out hb)); clear hb; have HH := Lib.hid hO; clear hO KU))
    | (go_at_call 37; ((with_reducible refine ((CI _).out).mono ?_); rintro e w1 ⟨v2, rfl, hO, hb⟩; have AVU := Lib.hid (apart_of (own_lo HV.out (Nat.le_refl _)) (own_up hO)); have hO := own_mono hO HB.out.size; have HB := Lib.hid (below_then HB.out hb); (try have HV := Lib.hid (own_below HV.out hb)); (try have HU := Lib.hid (own_below HU.out hb)); clear hb; have HU := Lib.hid hO; clear hO))
    | (go_at_call 38; ((with_reducible refine (c_eqHolesS _ _ _ _ _ _ HH.out HV.out HMV.out HLE.out).mono ?_); rintro e w1 ⟨rfl, hb⟩; have HB := Lib.hid (below_then HB.out hb); (try have HV := Lib.hid (own_below HV.out hb)); (try have HU := Lib.hid (own_below HU.out hb)); clear hb))
    | (go_at_call 38; ((with_reducible refine (c_eqHolesS _ _ _ _ _ _ HU.out HV.out HMV.out HLE.out).mono ?_); rintro e w1 ⟨rfl, hb⟩; have HB := Lib.hid (below_then HB.out hb); (try have HV := Lib.hid (own_below HV.out hb)); (try have HU := Lib.hid (own_below HU.out hb)); clear hb))
    | (go_at_call 39; ((with_reducible refine (c_markHoles1 _ _ _ _ _ HU.out HLE.out).mono ?_); rintro e w1 ⟨rfl, hO, ht⟩; have HB := Lib.hid (HB.out.trans (ht.below (own_up hO))); have HV := Lib.hid (own_touV HV.out ht AVU.out.ne); have HU := Lib.hid hO; clear hO ht))
    | (go_at_call 40; ((with_reducible refine (c_heldHoles1 _ _ _ _ HU.out HLE.out).mono ?_); rintro e w1 ⟨rfl, rfl⟩)))
  go_ret
  exact ⟨rfl, below_then HBW.out HB.out⟩
end Go.Proofs.Ytcjpfgloemoobaa
