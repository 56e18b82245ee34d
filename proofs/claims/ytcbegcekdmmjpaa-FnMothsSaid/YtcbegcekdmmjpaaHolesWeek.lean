/- A week of moths, by the reference and by the program. -/
import Derived.Test.YtcbegcekdmmjpaaHolesBase
import Derived.Test.YtcbegcekdmmjpaaHolesComp
import Derived.Test.YtcbegcekdmmjpaaEach
import Derived.Test.YtcbegcekdmmjpaaHolesText
namespace Go.Proofs.Ytcbegcekdmmjpaa
open Go.RowKit
set_option linter.unusedVariables false
set_option linter.unusedSimpArgs false
set_option maxRecDepth 100000

/-- The first i of the four neighbours, in the reference's order. -/
def nbp (hs : List Int) (x y : Int) : Nat → Int
  | 0 => 0
  | 1 => b2i (hole hs (x - 1) y)
  | 2 => b2i (hole hs (x - 1) y) + b2i (hole hs x (y + 1))
  | 3 => b2i (hole hs (x - 1) y) + b2i (hole hs x (y + 1)) + b2i (hole hs (x + 1) y)
  | _ => b2i (hole hs (x - 1) y) + b2i (hole hs x (y + 1)) + b2i (hole hs (x + 1) y) + b2i (hole hs x (y - 1))
theorem nbp_four (hs : List Int) (x y : Int) : nbp hs x y 4 = nb hs x y := by simp only [nbp, nb]; omega
theorem nbp_s0 (hs : List Int) (x y : Int) : nbp hs x y 1 = nbp hs x y 0 + b2i (hole hs (x + -1) y) := by
  rw [show x + -1 = x - 1 by omega]; simp only [nbp]; omega
theorem nbp_s1 (hs : List Int) (x y : Int) : nbp hs x y 2 = nbp hs x y 1 + b2i (hole hs x (y + 1)) := rfl
theorem nbp_s2 (hs : List Int) (x y : Int) : nbp hs x y 3 = nbp hs x y 2 + b2i (hole hs (x + 1) y) := rfl
theorem nbp_s3 (hs : List Int) (x y : Int) : nbp hs x y 4 = nbp hs x y 3 + b2i (hole hs x (y + -1)) := by
  rw [show y + -1 = y - 1 by omega]; simp only [nbp]
theorem pow_mod_fin : ∀ j : Fin 8, (2 : Int) ^ j.val % 256 = 2 ^ j.val := by decide
theorem pow_mod {j : Nat} (h : j < 8) : (2 : Int) ^ j % 256 = 2 ^ j := pow_mod_fin ⟨j, h⟩
theorem b2i_bd (b : Bool) : 0 ≤ b2i b ∧ b2i b ≤ 1 := by cases b <;> decide
theorem nbp_bd (hs : List Int) (x y : Int) (i : Nat) (hi : i ≤ 4) : 0 ≤ nbp hs x y i ∧ nbp hs x y i ≤ i := by
  have h1 := b2i_bd (hole hs (x - 1) y)
  have h2 := b2i_bd (hole hs (x + 1) y)
  have h3 := b2i_bd (hole hs x (y - 1))
  have h4 := b2i_bd (hole hs x (y + 1))
  match i, hi with
  | 0, _ | 1, _ | 2, _ | 3, _ | 4, _ => simp only [nbp]; omega
theorem holes_info {hs : List Int} (h : hs.length = 8) : (Try.prog.info? 25).map (·.size) = some (nums .u8 hs).toArray.size := by
  have e : (Try.prog.info? 25).map (·.size) = some 8 := by kernel_rfl
  rw [e]; simp [nums, h]

structure WkSt (hs : List Int) (need : Int) (g T n : Nat) (w : World) (m : Nat) (wr : World) : Prop where
  hH : wr.heap[g]? = some (.cells (nums .u8 hs).toArray T (0, 0))
  hR : ∃ z : List Int, z.length = 8 ∧ wr.heap[n]? = some (.cells (nums .u8 z).toArray 25 (0, 0))
  hO : wr.heap[n + 1]? = some (.cells (nums .u8 (weekN hs need m)).toArray 25 (0, 0))
  hB : Below n w wr
theorem WkSt.add {hs : List Int} {need : Int} {g T n : Nat} {w : World} {k j : Nat} {wr : World} (h : WkSt hs need g T n w (8 * k + j) wr) (hg : g < n) (hk : k < 8) (hj : j < 8) (hn : need ≤ nb hs (j : Int) (k : Int)) :
    WkSt hs need g T n w (8 * k + (j + 1)) (wr.setCell ⟨n + 1, k, none⟩ (.int .u8 (bits .or .u8 (gi (weekN hs need (8 * k + j)) k) (2 ^ j)))) := by
  obtain ⟨hH, ⟨z, hz, hR⟩, hO, hB⟩ := h
  refine ⟨blk_far hH (by omega) _ _, ⟨z, hz, blk_far hR (by omega) _ _⟩, ?_, hB.setCell (by simp) _⟩
  have := blk_set hO k (.int .u8 (bits .or .u8 (gi (weekN hs need (8 * k + j)) k) (2 ^ j)))
  rw [nums_set] at this
  rw [show 8 * k + (j + 1) = 8 * k + j + 1 by omega, weekN_yes hk hj hn]
  exact this
theorem WkSt.same {hs : List Int} {need : Int} {g T n : Nat} {w : World} {k j : Nat} {wr : World} (h : WkSt hs need g T n w (8 * k + j) wr) (hj : j < 8) (hn : ¬ need ≤ nb hs (j : Int) (k : Int)) : WkSt hs need g T n w (8 * k + (j + 1)) wr := by
  obtain ⟨hH, hR, hO, hB⟩ := h
  refine ⟨hH, hR, ?_, hB⟩
  rw [show 8 * k + (j + 1) = 8 * k + j + 1 by omega, weekN_no hj hn]
  exact hO

set_option maxHeartbeats 2000000 in
theorem c_l06Week (g T : Nat) (hs : List Int) (need : Int) (w : World) (h8 : Holes8 hs) (hH : w.heap[g]? = some (.cells (nums .u8 hs).toArray T (0, 0))) :
    Calls Try.prog 31 #[.pointer (some ⟨g, 0, none⟩), .int .i64 need] w fun e w' => e = .returned (.agg (nums .u8 (week hs need)).toArray) ∧ Below w.heap.size w w' := by
  have HI := Lib.hid (holes_info h8.len)
  have HIW := Lib.hid (holes_info (week8 hs need).len)
  have H8 := Lib.hid h8
  have hg := blk_lt hH
  have HZ : Hid (#[Value.int .u8 0, .int .u8 0, .int .u8 0, .int .u8 0, .int .u8 0, .int .u8 0, .int .u8 0, .int .u8 0] = (nums .u8 noHoles).toArray) := rfl
  have HH := Lib.hid (blk_alloc (blk_alloc hH (.cells (nums .u8 noHoles).toArray 25 (0, 0))) (.cells (nums .u8 noHoles).toArray 25 (0, 0)))
  have HH0 := Lib.hid (blk_alloc hH (.cells (nums .u8 noHoles).toArray 25 (0, 0)))
  have HR : Hid (((w.alloc (.cells (nums .u8 noHoles).toArray 25 (0, 0))).alloc (.cells (nums .u8 noHoles).toArray 25 (0, 0))).heap[w.heap.size]? = some (.cells (nums .u8 noHoles).toArray 25 (0, 0))) := blk_alloc (heap_alloc_new _ _) _
  have HO : Hid (((w.alloc (.cells (nums .u8 noHoles).toArray 25 (0, 0))).alloc (.cells (nums .u8 noHoles).toArray 25 (0, 0))).heap[w.heap.size + 1]? = some (.cells (nums .u8 noHoles).toArray 25 (0, 0))) := by
    have := heap_alloc_new (w.alloc (.cells (nums .u8 noHoles).toArray 25 (0, 0))) (.cells (nums .u8 noHoles).toArray 25 (0, 0))
    rwa [World.size_alloc] at this
  clear h8 hH
  go_enter Try.func31, Try.ntmps31
  go_wp2_with (first
    | (refine wpList_load_row rfl 25 (.tmp 11) rfl g rfl T _ (0, 0) _ HH0.out Try.underlying25 rfl HI.out ?_)
    | (refine wpList_store_row rfl 25 (.tmp 5) (.tmp 12) rfl (w.heap.size + 1) (nums .u8 hs).toArray rfl rfl 25 _ HO.out HI.out (by simp [nums, noHoles, H8.out.len]) (nums_one _ _) ?_))
  go_loopw [6] (fun i wr => ∃ k : Nat, k ≤ 8 ∧ i = .int .i64 k ∧ Hid (WkSt hs need g T w.heap.size w (8 * k) wr)) (fun i _ => 8 - (intOf i).toNat)
  case atStart =>
    refine ⟨0, by omega, rfl, (Tou.setRow _ _ _).block g (by omega) |>.trans HH.out, ⟨noHoles, rfl, ((Tou.setRow _ _ _).block _ (by omega)).trans HR.out⟩, ?_, ?_⟩
    · rw [show 8 * 0 = 0 from rfl, weekN_zero H8.out]
      exact setRow_heap _ _ _ _ _ _ HO.out
    · exact ((Below.refl _ _).alloc (Nat.le_refl _) _ |>.alloc (by simp) _).trans ((Tou.setRow _ _ _).below (by omega))
  case round =>
    obtain ⟨k, hk, rfl, hI⟩ := hrel
    by_cases hlt : k < 8
    · have d1 : decide ((k : Int) < 8) = true := by simp; omega
      go_wp2
      obtain ⟨wo, rfl⟩ : ∃ wo : World, wo = wr := ⟨_, rfl⟩
      go_loopw [7] (fun i wr => ∃ j : Nat, j ≤ 8 ∧ i = .int .i64 j ∧ Hid (WkSt hs need g T w.heap.size w (8 * k + j) wr)) (fun i _ => 8 - (intOf i).toNat)
      case atStart => exact ⟨0, by omega, rfl, hI.out⟩
      case round =>
        obtain ⟨j, hj, rfl, hJ⟩ := hrel
        by_cases hlt2 : j < 8
        · have d2 : decide ((j : Int) < 8) = true := by simp; omega
          have HA := Lib.hid (HAt_row H8.out.len hJ.out.hH)
          go_wp2
          go_loop [8, 9] (fun n i => ∃ q : Nat, q ≤ 4 ∧ i = .int .i64 q ∧ n = .int .i64 (nbp hs (j : Int) (k : Int) q)) (fun _ i => 4 - (intOf i).toNat)
          case atStart => exact ⟨0, by omega, rfl, rfl⟩
          case round =>
            obtain ⟨q, hq, rfl, rfl⟩ := hrel
            have hbd := nbp_bd hs (j : Int) (k : Int) q hq
            by_cases hlt3 : q < 4
            · have d3 : decide ((q : Int) < 4) = true := by simp; omega
              rcases (show q = 0 ∨ q = 1 ∨ q = 2 ∨ q = 3 by omega) with rfl | rfl | rfl | rfl
              · have E : Hid (nbp hs (j : Int) (k : Int) 1 = nbp hs (j : Int) (k : Int) 0 + b2i (hole hs ((j : Int) + -1) (k : Int))) := nbp_s0 hs _ _
                cases hh : hole hs ((j : Int) + -1) (k : Int)
                · rw [hh] at E
                  go_wp2_with (go_at_call 46; ((with_reducible refine (c_l06Hole g 0 hs _ _ _ H8.out HA.out).mono ?_); rintro e w1 ⟨rfl, rfl⟩))
                  exact ⟨⟨1, by omega, rfl, by rw [E.out]; simp [b2i]⟩, by simp [intOf]⟩
                · rw [hh] at E
                  go_wp2_with (go_at_call 46; ((with_reducible refine (c_l06Hole g 0 hs _ _ _ H8.out HA.out).mono ?_); rintro e w1 ⟨rfl, rfl⟩))
                  exact ⟨⟨1, by omega, rfl, by rw [E.out]; simp [b2i]⟩, by simp [intOf]⟩
              · have E : Hid (nbp hs (j : Int) (k : Int) 2 = nbp hs (j : Int) (k : Int) 1 + b2i (hole hs (j : Int) ((k : Int) + 1))) := nbp_s1 hs _ _
                cases hh : hole hs (j : Int) ((k : Int) + 1)
                · rw [hh] at E
                  go_wp2_with (go_at_call 46; ((with_reducible refine (c_l06Hole g 0 hs _ _ _ H8.out HA.out).mono ?_); rintro e w1 ⟨rfl, rfl⟩))
                  exact ⟨⟨2, by omega, rfl, by rw [E.out]; simp [b2i]⟩, by simp [intOf]⟩
                · rw [hh] at E
                  go_wp2_with (go_at_call 46; ((with_reducible refine (c_l06Hole g 0 hs _ _ _ H8.out HA.out).mono ?_); rintro e w1 ⟨rfl, rfl⟩))
                  exact ⟨⟨2, by omega, rfl, by rw [E.out]; simp [b2i]⟩, by simp [intOf]⟩
              · have E : Hid (nbp hs (j : Int) (k : Int) 3 = nbp hs (j : Int) (k : Int) 2 + b2i (hole hs ((j : Int) + 1) (k : Int))) := nbp_s2 hs _ _
                cases hh : hole hs ((j : Int) + 1) (k : Int)
                · rw [hh] at E
                  go_wp2_with (go_at_call 46; ((with_reducible refine (c_l06Hole g 0 hs _ _ _ H8.out HA.out).mono ?_); rintro e w1 ⟨rfl, rfl⟩))
                  exact ⟨⟨3, by omega, rfl, by rw [E.out]; simp [b2i]⟩, by simp [intOf]⟩
                · rw [hh] at E
                  go_wp2_with (go_at_call 46; ((with_reducible refine (c_l06Hole g 0 hs _ _ _ H8.out HA.out).mono ?_); rintro e w1 ⟨rfl, rfl⟩))
                  exact ⟨⟨3, by omega, rfl, by rw [E.out]; simp [b2i]⟩, by simp [intOf]⟩
              · have E : Hid (nbp hs (j : Int) (k : Int) 4 = nbp hs (j : Int) (k : Int) 3 + b2i (hole hs (j : Int) ((k : Int) + -1))) := nbp_s3 hs _ _
                cases hh : hole hs (j : Int) ((k : Int) + -1)
                · rw [hh] at E
                  go_wp2_with (go_at_call 46; ((with_reducible refine (c_l06Hole g 0 hs _ _ _ H8.out HA.out).mono ?_); rintro e w1 ⟨rfl, rfl⟩))
                  exact ⟨⟨4, by omega, rfl, by rw [E.out]; simp [b2i]⟩, by simp [intOf]⟩
                · rw [hh] at E
                  go_wp2_with (go_at_call 46; ((with_reducible refine (c_l06Hole g 0 hs _ _ _ H8.out HA.out).mono ?_); rintro e w1 ⟨rfl, rfl⟩))
                  exact ⟨⟨4, by omega, rfl, by rw [E.out]; simp [b2i]⟩, by simp [intOf]⟩
            · obtain rfl : q = 4 := by omega
              have c1 := nums_cell hJ.out.hO k (by rw [(weekN8 _ _ _).len]; exact hlt)
              have f1 := blk_frozen hJ.out.hO k
              by_cases hn : need ≤ nbp hs (j : Int) (k : Int) 4
              · have HN := Lib.hid (hJ.out.add hg hlt hlt2 (by rw [← nbp_four]; exact hn))
                have pw := Lib.hid (pow_mod hlt2)
                go_wp2
                go_roundw
                case rel => exact ⟨j + 1, by omega, by go_num, by rw [pw.out]; exact HN⟩
                case measure => simp [intOf]; omega
              · have HN := Lib.hid (hJ.out.same hlt2 (by rw [← nbp_four]; exact hn))
                go_wp2
                go_roundw
                case rel => exact ⟨j + 1, by omega, by go_num, HN⟩
                case measure => simp [intOf]; omega
        · obtain rfl : j = 8 := by omega
          go_wp2
          go_roundw
          case rel => exact ⟨k + 1, by omega, by go_num, by rw [show 8 * (k + 1) = 8 * k + 8 by omega]; exact hJ⟩
          case measure => simp [intOf]; omega
    · obtain rfl : k = 8 := by omega
      obtain ⟨hH, ⟨z, hz, hzb⟩, hO, hB⟩ := hI.out
      have HW : Hid (wr.heap[w.heap.size + 1]? = some (.cells (nums .u8 (week hs need)).toArray 25 (0, 0))) := hO
      have HZB := Lib.hid hzb
      clear hzb hO hH
      go_wp2_with (first
        | (refine wpList_load_row rfl 25 (.tmp 5) rfl (w.heap.size + 1) rfl 25 _ (0, 0) _ HW.out Try.underlying25 rfl HIW.out ?_)
        | (refine wpList_store_row rfl 25 (.tmp 4) (.tmp 51) rfl w.heap.size (nums .u8 (week hs need)).toArray rfl rfl 25 _ HZB.out HIW.out (by simp [nums, hz, (week8 hs need).len]) (nums_one _ _) ?_))
      refine bodyPost_ret (v := .agg (nums .u8 (week hs need)).toArray) (results_cell_row rfl _ _ w.heap.size 25 _ (0, 0) _ rfl (setRow_heap _ _ _ _ _ _ HZB.out) Try.underlying25 rfl HIW.out) rfl ⟨rfl, ?_⟩
      exact hB.trans ((Tou.setRow _ _ _).below (by omega))
end Go.Proofs.Ytcbegcekdmmjpaa
