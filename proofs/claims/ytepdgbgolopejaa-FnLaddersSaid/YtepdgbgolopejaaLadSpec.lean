/- The reference's widths of a fabric, and its last row. -/
import Derived.Test.YtepdgbgolopejaaLadPure
import Derived.Test.YtepdgbgolopejaaInt64S
namespace Go.Proofs.Ytepdgbgolopejaa
open Go.RowKit
set_option linter.unusedVariables false
set_option linter.unusedSimpArgs false
set_option maxRecDepth 100000

def widL (cast : Int) (L : List (List UInt8)) (n : Nat) : List Int := (List.range n).map fun r => (widN cast L r : Int)
theorem widL_len (cast : Int) (L : List (List UInt8)) (n : Nat) : (widL cast L n).length = n := by simp [widL]
theorem widL_succ (cast : Int) (L : List (List UInt8)) (n : Nat) : nums .i64 (widL cast L (n + 1)) = nums .i64 (widL cast L n) ++ [.int .i64 (widN cast L n : Int)] := by
  simp [widL, List.range_succ, nums]
theorem widL_get {cast : Int} {L : List (List UInt8)} {n r : Nat} (h : r < n) : (nums .i64 (widL cast L n))[r]? = some (.int .i64 (widN cast L r : Int)) := by
  simp [widL, nums, h]
theorem getD_mem {L : List (List UInt8)} {k : Nat} (h : k < L.length) : L.getD k [] ∈ L := by
  rw [List.getD_eq_getElem?_getD, List.getElem?_eq_getElem h]; exact List.getElem_mem h
set_option maxHeartbeats 1000000 in
theorem c_l05Widths (g : Nat) (cast : Int) (A : Option Addr) (cap : Nat) (L : List (List UInt8)) (w : World) (hF : FabAt w cast A cap L) (hV : FabV cast L) (hg : w.heap[g]? = some (.cells #[.int .i16 cast, .slice A L.length cap] 27 (0, 0))) :
    Calls Try.prog 25 #[.pointer (some ⟨g, 0, none⟩)] w fun e w' => ∃ v, e = .returned v ∧ w'.ownsRow w.heap.size 2 1 v (L.length + 1) (nums .i64 (widL cast L (L.length + 1))) ∧ Below w.heap.size w w' := by
  obtain ⟨b0, b1⟩ := hF.bd
  have wc : IntKind.i64.wrap cast = cast := IntWalk.i64_in _ (by omega)
  have HF := Lib.hid hF
  have HV := Lib.hid hV
  have hn := hV.num
  have hc0 : cast = (widN cast L 0 : Int) := by have := hV.csb; simp only [widN]; omega
  have HG := Lib.hid hg
  have x0 : w.cell? ⟨g, 0, none⟩ = some (.int .i16 cast) := cell_of_row w g 0 _ _ _ hg
  have HC0 := Lib.hid hc0
  clear hF hV hg hc0
  go_enter Try.func25, Try.ntmps25
  go_wp2
  go_loopw [4, 3] (fun i v wr => ∃ k : Nat, k ≤ L.length ∧ i = .int .i64 k ∧ Hid (wr.ownsRow w.heap.size 2 1 v (k + 1) (nums .i64 (widL cast L (k + 1)))) ∧ Hid (Below w.heap.size w wr)) (fun i _ _ => L.length - (intOf i).toNat)
  case atStart => exact ⟨0, by omega, rfl, by
    have := own_of_row (w := w.alloc (.cells #[.int .i64 cast] 2 (0, 0))) (base := w.heap.size) (size := 1) (n := 1) (heap_alloc_new w _) rfl (Nat.le_refl _) (by decide)
    rw [Hid]
    rw [show nums .i64 (widL cast L 1) = [.int .i64 cast] by rw [show widL cast L 1 = [(widN cast L 0 : Int)] from rfl, ← HC0.out]; rfl]
    exact this, below_alloc (Below.refl _ _) _⟩
  case round =>
    obtain ⟨k, hk, rfl, hI, hB⟩ := hrel
    have HGr := Lib.hid (blk_below HG.out hB.out)
    have x1 : wr.cell? ⟨g, 1, none⟩ = some (.slice A L.length cap) := blk_cell HGr.out 1
    by_cases hlt : k < L.length
    · have d1 : decide ((k : Int) < (L.length : Int)) = true := by simp; omega
      have k0 : (0 : Int) ≤ (k : Int) := by omega
      have k1 : (k : Int) < (L.length : Int) := by omega
      obtain ⟨ad, rfl, c0⟩ := (HF.out.row.below hB.out) k _ (strs_get hlt)
      have hz := hB.out.size
      have CR : Hid (Calls Try.prog 51 #[.string (str (L.getD k []))] wr fun e w' => ∃ a, e = .returned (.tuple #[.int .i64 a, .int .i64 (widN cast L (k + 1) : Int), .bool true]) ∧ wr = w') := by
        obtain ⟨a, ha⟩ := HV.out.row k hlt
        refine (c_l05Row _ (HF.out.len _ (getD_mem hlt)) wr).mono fun e w' h => ?_
        rw [(rowV_some ha).1, (rowV_some ha).2, (rowS_all ha).2] at h
        exact ⟨a.1, h.1, h.2⟩
      have HS := Lib.hid (widL_succ cast L (k + 1))
      generalize (widN cast L (k + 1) : Int) = m at *
      generalize L.getD k [] = l at *
      go_wp2_with (first
        | (go_at_call 51; ((with_reducible refine CR.out.mono ?_); rintro e w1 ⟨a, rfl, rfl⟩))
        | (at_builtin; refine ap1 rfl (.tmp 35) (.tmp 37) 29 2 rfl (.int .i64 0) 1 8 w.heap.size Try.underlying29 (by kernel_rfl) rfl (by decide) u3 (k + 1) (nums .i64 (widL cast L (k + 1))) [.int .i64 m] rfl rfl (by simp) rfl rfl hI.out hz (by omega) (by omega) ?_; intro g3 d3 w5 hown hg3 hat; have hB5 := Lib.hid (below_grown hB.out hg3 hI.out (Nat.le_refl _) hz); have hO5 := Lib.hid hown; clear hown hat hg3))
      go_roundw
      case rel => exact ⟨k + 1, by omega, by go_num, by rw [HS.out]; exact hO5, hB5⟩
      case measure => simp [intOf]; omega
    · obtain rfl : k = L.length := by omega
      have d1 : decide ((L.length : Int) < (L.length : Int)) = false := by simp
      go_wp2
      exact bodyPost_ret (v := u3) (by simp [results, Try.results25, go_sem]) rfl ⟨_, rfl, hI.out, hB.out⟩
theorem c_l05Last (g : Nat) (cast at_ : Int) (A : Option Addr) (cap : Nat) (L : List (List UInt8)) (w : World) (hF : FabAt w cast A cap L) (hV : FabV cast L) (hg : w.heap[g]? = some (.cells #[.int .i16 cast, .slice A L.length cap] 27 (0, 0))) :
    Calls Try.prog 30 #[.pointer (some ⟨g, 0, none⟩), .int .i64 at_] w fun e w' => e = .returned (.bool (inB at_ 0 ((widN cast L L.length : Int) - 1))) ∧ Below w.heap.size w w' := by
  have CW := Lib.hid (c_l05Widths g cast A cap L w hF hV hg)
  have hw := hV.wid L.length (Nat.le_refl _)
  have hn := hV.num
  have HG := Lib.hid (widL_get (cast := cast) (L := L) (show L.length < L.length + 1 by omega))
  clear hF hV hg
  generalize widN cast L L.length = m at *
  go_enter Try.func30, Try.ntmps30
  go_wp2_with (first
    | (go_at_call 25; ((with_reducible refine CW.out.mono ?_); rintro e w1 ⟨v, rfl, hO, hb⟩; obtain ⟨A1, c1, rfl, hA⟩ := own_form hO; obtain ⟨g1, rfl, hg1⟩ := hA (by omega); have x1 := (own_get hO HG.out).1; clear hO))
    | (go_at_call 40; ((with_reducible refine (c_l00In _ _ _ _).mono ?_); rintro e w2 ⟨rfl, rfl⟩)))
  go_ret
  exact ⟨rfl, hb⟩
end Go.Proofs.Ytepdgbgolopejaa
