/- The reference's CatchLoop. -/
import Derived.Test.YtepdgbgolopejaaLadWalk
namespace Go.Proofs.Ytepdgbgolopejaa
open Go.RowKit
set_option linter.unusedVariables false
set_option linter.unusedSimpArgs false
set_option maxRecDepth 100000

/-- What a call that gives loops and a code ends with. -/
abbrev LpEnd (r : List (Int × Int) × Int) (w : World) (e : Ending) (w' : World) : Prop := ∃ v, e = .returned (.tuple #[v, .int .i64 r.2]) ∧ w'.ownsRow w.heap.size 39 2 v r.1.length (lpRow r.1) ∧ Below w.heap.size w w'
theorem lpEnd_new {r : List (Int × Int) × Int} {k : Int} {w w' : World} (h : r = ([], k)) (hb : Below w.heap.size w w') : LpEnd r w (.returned (.tuple #[.slice (some ⟨w'.heap.size, 0, none⟩) 0 0, .int .i64 k])) (w'.alloc (.cells #[] 39 (0, 0))) := by
  subst h
  exact ⟨_, rfl, own_empty (heap_alloc_new w' _) hb.size, below_alloc hb _⟩
theorem lpEnd_nil {r : List (Int × Int) × Int} {k : Int} {w w' : World} (h : r = ([], k)) (hb : Below w.heap.size w w') : LpEnd r w (.returned (.tuple #[.slice none 0 0, .int .i64 k])) w' := by
  subst h
  exact ⟨_, rfl, own_nil _ _ _ _, hb⟩
theorem catch_bad {cast : Int} {L : List (List UInt8)} {at_ row : Int} (h : fabOk cast L = false) : catchF cast L at_ row = ([], 1) := by rw [catchF, h]; rfl
theorem catch_out {cast : Int} {L : List (List UInt8)} {at_ row : Int} (h : fabOk cast L = true) (h2 : ¬ (inB at_ 0 ((widN cast L L.length : Int) - 1) = true ∧ inB row 0 L.length = true)) : catchF cast L at_ row = ([], 2) := by rw [catchF, h, if_pos rfl, if_neg h2]
theorem catch_in {cast : Int} {L : List (List UInt8)} {at_ row : Int} (h : fabOk cast L = true) (h2 : inB at_ 0 ((widN cast L L.length : Int) - 1) = true) (h3 : inB row 0 L.length = true) : catchF cast L at_ row = (ladU L at_.toNat (L.length - row.toNat), 0) := by rw [catchF, h, if_pos rfl, if_pos ⟨h2, h3⟩]
set_option maxHeartbeats 1000000 in
theorem c_sCatchLoop (cast at_ row : Int) (A : Option Addr) (cap : Nat) (L : List (List UInt8)) (w : World) (hF : FabAt w cast A cap L) :
    Calls Try.prog 18 #[.agg #[.int .i16 cast, .slice A L.length cap], .int .i64 at_, .int .i64 row] w (LpEnd (catchF cast L at_ row) w) := by
  have hb0 : Below w.heap.size w (w.alloc (.cells #[.int .i16 cast, .slice A L.length cap] 27 (0, 0))) := below_alloc (Below.refl _ _) _
  have hA := heap_alloc_new w (.cells #[.int .i16 cast, .slice A L.length cap] 27 (0, 0))
  have CO := Lib.hid (c_l05Ok w.heap.size cast A cap L _ (hF.below hb0) hA)
  have HB0 := Lib.hid hb0
  have HA := Lib.hid hA
  have HF := Lib.hid (hF.below hb0)
  have hnum := hF.num
  clear hb0 hA hF
  cases q1 : fabOk cast L
  · have E := Lib.hid (catch_bad (at_ := at_) (row := row) q1)
    rw [q1] at CO
    clear q1
    go_enter Try.func18, Try.ntmps18
    go_wp2_with (go_at_call 24; ((with_reducible refine CO.out.mono ?_); rintro e w1 ⟨rfl, hb⟩; have HB1 := Lib.hid (below_then HB0.out hb); clear hb))
    exact bodyPost_ret (v := .tuple #[.slice (some ⟨w1.heap.size, 0, none⟩) 0 0, .int .i64 1]) (by simp [results, Try.results18, go_sem]) rfl (lpEnd_new E.out HB1.out)
  · have hV := fabV_of q1
    have CL := Lib.hid (fun w' h h2 => c_l05Last w.heap.size cast at_ A cap L w' h hV h2)
    rw [q1] at CO
    cases q2 : inB at_ 0 ((widN cast L L.length : Int) - 1)
    · have E := Lib.hid (catch_out (at_ := at_) (row := row) q1 (fun h => by rw [q2] at h; exact Bool.false_ne_true h.1))
      rw [q2] at CL
      clear q1 q2 hV
      go_enter Try.func18, Try.ntmps18
      go_wp2_with (first
        | (go_at_call 24; ((with_reducible refine CO.out.mono ?_); rintro e w1 ⟨rfl, hb⟩; have HB1 := Lib.hid (below_then HB0.out hb); have HA1 := Lib.hid (blk_below HA.out hb); have HF1 := Lib.hid (HF.out.below hb); clear hb))
        | (go_at_call 30; ((refine (CL.out _ HF1.out HA1.out).mono ?_); rintro e w2 ⟨rfl, hb⟩; have HB1 := Lib.hid (below_then HB1.out hb); clear hb)))
      exact bodyPost_ret (v := .tuple #[.slice (some ⟨w2.heap.size, 0, none⟩) 0 0, .int .i64 2]) (by simp [results, Try.results18, go_sem]) rfl (lpEnd_new E.out HB1.out)
    · rw [q2] at CL
      cases q3 : inB row 0 L.length
      · have E := Lib.hid (catch_out (at_ := at_) (row := row) q1 (fun h => by rw [q3] at h; exact Bool.false_ne_true h.2))
        have CI : ∀ w, Hid (Calls Try.prog 40 #[.int .i64 row, .int .i64 0, .int .i64 (L.length : Int)] w fun e w' => e = .returned (.bool false) ∧ w = w') := fun w => by
          have := c_l00In row 0 (L.length : Int) w
          rwa [q3] at this
        clear q1 q2 q3 hV
        go_enter Try.func18, Try.ntmps18
        go_wp2_with (first
          | (go_at_call 24; ((with_reducible refine CO.out.mono ?_); rintro e w1 ⟨rfl, hb⟩; have HB1 := Lib.hid (below_then HB0.out hb); have HA1 := Lib.hid (blk_below HA.out hb); have HF1 := Lib.hid (HF.out.below hb); clear hb))
          | (go_at_call 30; ((refine (CL.out _ HF1.out HA1.out).mono ?_); rintro e w2 ⟨rfl, hb⟩; have HB1 := Lib.hid (below_then HB1.out hb); have y1 := blk_cell (blk_below HA1.out hb) 1; simp at y1; clear hb))
          | (go_at_call 40; ((refine (CI _).out.mono ?_); rintro e w3 ⟨rfl, rfl⟩)))
        exact bodyPost_ret (v := .tuple #[.slice (some ⟨w2.heap.size, 0, none⟩) 0 0, .int .i64 2]) (by simp [results, Try.results18, go_sem]) rfl (lpEnd_new E.out HB1.out)
      · have E := Lib.hid (catch_in (row := row) q1 q2 q3)
        have CI : ∀ w, Hid (Calls Try.prog 40 #[.int .i64 row, .int .i64 0, .int .i64 (L.length : Int)] w fun e w' => e = .returned (.bool true) ∧ w = w') := fun w => by
          have := c_l00In row 0 (L.length : Int) w
          rwa [q3] at this
        have h2 : 0 ≤ at_ ∧ at_ ≤ (widN cast L L.length : Int) - 1 := by simpa [inB] using q2
        have h3 : 0 ≤ row ∧ row ≤ (L.length : Int) := by simpa [inB] using q3
        obtain ⟨a, rfl⟩ := Int.eq_ofNat_of_zero_le h2.1
        have hrw : row = (L.length : Int) - ((L.length - row.toNat : Nat) : Int) := by omega
        have CD := Lib.hid (fun w' h hg => c_l05Ladder w.heap.size a (L.length - row.toNat) cast row A cap L w' h hV hg (by omega) (by omega) hrw)
        have HE : Hid (catchF cast L (a : Int) row = (ladU L a (L.length - row.toNat), 0)) := E.out
        clear q1 q2 q3 hV h2 h3 hrw E
        go_enter Try.func18, Try.ntmps18
        go_wp2_with (first
          | (go_at_call 24; ((with_reducible refine CO.out.mono ?_); rintro e w1 ⟨rfl, hb⟩; have HB1 := Lib.hid (below_then HB0.out hb); have HA1 := Lib.hid (blk_below HA.out hb); have HF1 := Lib.hid (HF.out.below hb); clear hb))
          | (go_at_call 30; ((refine (CL.out _ HF1.out HA1.out).mono ?_); rintro e w2 ⟨rfl, hb⟩; have HB1 := Lib.hid (below_then HB1.out hb); have HA2 := Lib.hid (blk_below HA1.out hb); have HF2 := Lib.hid (HF1.out.below hb); have y1 := blk_cell HA2.out 1; simp at y1; clear hb))
          | (go_at_call 40; ((refine (CI _).out.mono ?_); rintro e w3 ⟨rfl, rfl⟩))
          | (go_at_call 31; ((refine (CD.out _ HF2.out HA2.out).mono ?_); rintro e w4 ⟨v, rfl, hO, hb⟩; have HO4 := Lib.hid (own_mono hO HB1.out.size); have HB1 := Lib.hid (below_then HB1.out hb); clear hb hO)))
        exact bodyPost_ret (v := .tuple #[v, .int .i64 0]) (by simp [results, Try.results18, go_sem]) rfl ⟨v, by rw [HE.out], by rw [HE.out]; exact HO4.out, HB1.out⟩
end Go.Proofs.Ytepdgbgolopejaa
