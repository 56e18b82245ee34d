/- The spot of a hole: the implementation's recursion, and the holes without some. -/
import Derived.Test.YtcbegcekdmmjpaaBitRows
import Derived.Test.YtcbegcekdmmjpaaHolesText
import Derived.Test.YtcbegcekdmmjpaaHolesWeek
import Derived.Test.YtcbegcekdmmjpaaHolesLater
import Derived.Test.YtcbegcekdmmjpaaMem4
import Derived.Test.YtcbegcekdmmjpaaEach
import Derived.StillTailTactics
import Derived.Laws.EntriesVeiled
namespace Go.Proofs.Ytcbegcekdmmjpaa
open Go.RowKit
set_option linter.unusedVariables false
set_option linter.unusedSimpArgs false
set_option maxRecDepth 100000

/-- What the recursion knows: the holes' box gh, the variable out at go, the closure itself at gf. -/
structure SpSt (hs O : List Int) (B gh go gf gR : Nat) (w0 w : World) : Prop where
  hH : w.heap[gh]? = some (.cells (nums .u8 hs).toArray 25 (0, 0))
  hO : w.heap[go]? = some (.cells (nums .u8 O).toArray 25 (0, 0))
  hF : w.heap[gf]? = some (.cells #[.func (.func 50) #[] #[.pointer (some ⟨gh, 0, none⟩), .pointer (some ⟨go, 0, none⟩), .pointer (some ⟨gf, 0, none⟩)]] 49 (0, 0))
  hR : w.heap[gR]? = some (.cells (nums .u8 noHoles).toArray 25 (0, 0))
  hB : Below B w0 w
theorem SpSt.below {hs O : List Int} {B gh go gf gR : Nat} {w0 w w1 : World} (h : SpSt hs O B gh go gf gR w0 w) (hb : Below w.heap.size w w1) (hB : B ≤ go) : SpSt hs O B gh go gf gR w0 w1 :=
  ⟨blk_below h.hH hb, blk_below h.hO hb, blk_below h.hF hb, blk_below h.hR hb, h.hB.trans (hb.mono (Nat.le_of_lt (Nat.lt_of_le_of_lt hB (blk_lt h.hO))))⟩
theorem SpSt.drew {hs O : List Int} {B gh go gf gR : Nat} {w0 w : World} (h : SpSt hs O B gh go gf gR w0 w) : SpSt hs O B gh go gf gR w0 w.drew := ⟨h.hH, h.hO, h.hF, h.hR, below_drew h.hB⟩
theorem SpSt.add {hs O : List Int} {B gh go gf gR : Nat} {w0 w : World} (h : SpSt hs O B gh go gf gR w0 w) (h1 : gh ≠ go) (h2 : gf ≠ go) (h3 : gR ≠ go) (hB : B ≤ go) (x y : Nat) :
    SpSt hs (addAt O x y) B gh go gf gR w0 (w.setCell ⟨go, y, none⟩ (.int .u8 (bits .or .u8 (gi O y) (2 ^ x)))) := by
  refine ⟨blk_far h.hH h1 _ _, ?_, blk_far h.hF h2 _ _, blk_far h.hR h3 _ _, h.hB.setCell hB _⟩
  have := blk_set h.hO y (.int .u8 (bits .or .u8 (gi O y) (2 ^ x)))
  rw [nums_set] at this
  exact this
theorem cnt_top {O : List Int} {x y : Nat} (h8 : Holes8 O) (hx : x < 8) (hy : y < 8) (h : hole O (x : Int) (y : Int) = false) : cnt O 64 + 1 ≤ cnt (addAt O x y) 64 :=
  cnt_less_at (x := x) (y := y) (fun a b e => (hole_addI h8 hx hy a b).2 (.inr e)) (by rw [h]; simp) ((hole_addI h8 hx hy _ _).2 (.inl ⟨rfl, rfl⟩))

set_option maxHeartbeats 4000000 in
theorem c_spot1 (hs : List Int) (h8 : Holes8 hs) (B gh go gf gR : Nat) (w0 : World) (hB : B ≤ go) (h1 : gh ≠ go) (h2 : gf ≠ go) (h3 : gR ≠ go)
    (he : ∀ args w, (callFunc 50 args).run Try.prog w = .ok (.enter 50 args) w) :
    ∀ (m : Nat) (O : List Int) (x y : Int) (w : World), Holes8 O → 64 - cnt O 64 ≤ m → (-1 ≤ x ∧ x ≤ 8) → (-1 ≤ y ∧ y ≤ 8) → SpSt hs O B gh go gf gR w0 w →
    Calls Try.prog 50 #[.int .i64 x, .int .i64 y, .pointer (some ⟨gh, 0, none⟩), .pointer (some ⟨go, 0, none⟩), .pointer (some ⟨gf, 0, none⟩)] w fun e w' => e = .returned (.tuple #[]) ∧ ∃ O', Grown4 hs O x y O' ∧ SpSt hs O' B gh go gf gR w0 w' := by
    intro m
    induction m using Nat.strongRecOn with
    | _ m ih =>
    intro O x y w hO8 hm hx hy hS
    have HI := Lib.hid (holes_info h8.len)
    have HI2 := Lib.hid (holes_info hO8.len)
    have H8 := Lib.hid h8
    have HO8 := Lib.hid hO8
    have HS := Lib.hid hS
    obtain ⟨x0, x1⟩ := hx
    obtain ⟨y0, y1⟩ := hy
    cases e1 : hole hs x y
    · have CH := fun w => Lib.hid (e1 ▸ c_has hs x y w h8)
      have G := Lib.hid (Grown4.none (hs := hs) (O := O) (x := x) (y := y) hO8 (fun h => by rw [e1] at h; cases h))
      clear h8 hO8 hS e1
      go_enter Try.func50, Try.ntmps50
      go_wp2_with (first
        | (refine wpList_load_row rfl 25 (.tmp 2) rfl gh rfl 25 (nums .u8 hs).toArray (0, 0) _ ?_ Try.underlying25 rfl HI.out ?_; (with_reducible exact HS.out.hH))
        | (go_at_call 29; ((with_reducible refine (CH _).out.mono ?_); rintro e w1 ⟨rfl, hb⟩; have HS := Lib.hid (HS.out.below hb hB))))
      exact bodyPost_ret (v := .tuple #[]) (by simp [results, Try.results50, go_sem]) rfl ⟨rfl, _, G.out, HS.out⟩
    · cases e2 : hole O x y
      · obtain ⟨a, b, ha, hb, rfl, rfl⟩ := hole_range e1
        obtain ⟨m', rfl⟩ : ∃ k, m = k + 1 := by
          have := cnt_top hO8 ha hb e2
          have := cnt_bd (addAt O a b) 64
          exact ⟨m - 1, by omega⟩
        have hc1 := cnt_top hO8 ha hb e2
        have hO1 := hO8.addAt (y := b) ha
        have CH := fun w => Lib.hid (e1 ▸ c_has hs (a : Int) (b : Int) w h8)
        have CO := fun w => Lib.hid (e2 ▸ c_has8 O (a : Int) (b : Int) w hO8)
        have IH := fun (O2 : List Int) (x2 y2 : Int) (w2 : World) (k8 : Holes8 O2) (kc : cnt (addAt O a b) 64 ≤ cnt O2 64) (kx : -1 ≤ x2 ∧ x2 ≤ 8) (ky : -1 ≤ y2 ∧ y2 ≤ 8) (kS : SpSt hs O2 B gh go gf gR w0 w2) => Lib.hid (ih m' (by omega) O2 x2 y2 w2 k8 (by omega) kx ky kS)
        have E1 := Lib.hid e1
        have HO1 := Lib.hid hO1
        have pw := Lib.hid (pow_mod ha)
        clear h8 hO8 hS e1 e2 hm hc1 hO1
        go_enter Try.func50, Try.ntmps50
        go_wp2_with (first
          | (refine wpList_load_row rfl 25 (.tmp 2) rfl gh rfl 25 (nums .u8 hs).toArray (0, 0) _ ?_ Try.underlying25 rfl HI.out ?_; (with_reducible exact HS.out.hH))
          | (go_at_call 29; ((with_reducible refine (CH _).out.mono ?_); rintro e w1 ⟨rfl, hb⟩; have HS := Lib.hid (HS.out.below hb hB); have e0 := nums_cell HS.out.hO 0 (by rw [HO8.out.len]; decide); have e1 := nums_cell HS.out.hO 1 (by rw [HO8.out.len]; decide); have e2 := nums_cell HS.out.hO 2 (by rw [HO8.out.len]; decide); have e3 := nums_cell HS.out.hO 3 (by rw [HO8.out.len]; decide); have e4 := nums_cell HS.out.hO 4 (by rw [HO8.out.len]; decide); have e5 := nums_cell HS.out.hO 5 (by rw [HO8.out.len]; decide); have e6 := nums_cell HS.out.hO 6 (by rw [HO8.out.len]; decide); have e7 := nums_cell HS.out.hO 7 (by rw [HO8.out.len]; decide); clear CH hb))
          | (go_at_call 29; ((with_reducible refine (CO _).out.mono ?_); rintro e w1 ⟨rfl, hb⟩; have HS := Lib.hid (HS.out.below hb hB); clear hb)))
        clear e0 e1 e2 e3 e4 e5 e6 e7 CO
        have c2 := nums_cell HS.out.hO b (by rw [HO8.out.len]; exact hb)
        have f2 := blk_frozen HS.out.hO b
        have i1 : (0 : Int) ≤ (b : Int) := by omega
        have i2 : (b : Int) < 8 := by omega
        have i3 : (0 : Int) ≤ (a : Int) := by omega
        have i4 : (a : Int) < 8 := by omega
        go_still_tail 7, (by kernel_rfl)
        change wpList _ _ _ _ _ w1.drew
        have S1 : Hid (SpSt hs (addAt O a b) B gh go gf gR w0 (w1.drew.setCell ⟨go, b, none⟩ (.int .u8 (bits .or .u8 (gi O b) (2 ^ a))))) := HS.out.drew.add h1 h2 h3 hB a b
        have c3 : w1.drew.cell? ⟨go, b, none⟩ = some (.int .u8 (gi O b)) := c2
        have f3 : w1.drew.frozen? ⟨go, b, none⟩ = false := f2
        clear c2 f2
        generalize w1.drew = wd at *
        have S1 : Hid (SpSt hs (addAt O a b) B gh go gf gR w0 (wd.setCell ⟨go, b, none⟩ (.int .u8 (bits .or .u8 (gi O b) (2 ^ a % 256))))) := by rw [Hid, pw.out]; exact S1.out
        have kF := blk_cell S1.out.hF 0
        have k1 := Lib.hid True.intro
        go_wp2_with (first
          | (go_at_call 50; clear k1; ((refine (IH (addAt O a b) ((a : Int) - 1) (b : Int) _ HO1.out (Int.le_refl _) (by omega) (by omega) S1.out).out.mono ?_); rintro e w2 ⟨rfl, O2, g1, S2⟩; have G1 := Lib.hid g1; have S2 := Lib.hid S2; have l2 := cnt_mono g1.mono 64; clear kF g1; have kF := blk_cell S2.out.hF 0; have k2 := Lib.hid True.intro))
          | (go_at_call 50; clear k2; ((refine (IH O2 ((a : Int) + 1) (b : Int) _ G1.out.h8 l2 (by omega) (by omega) S2.out).out.mono ?_); rintro e w3 ⟨rfl, O3, g2, S3⟩; have G2 := Lib.hid g2; have S3 := Lib.hid S3; have l3 := Int.le_trans l2 (cnt_mono g2.mono 64); clear kF g2; have kF := blk_cell S3.out.hF 0; have k3 := Lib.hid True.intro))
          | (go_at_call 50; clear k3; ((refine (IH O3 (a : Int) ((b : Int) - 1) _ G2.out.h8 l3 (by omega) (by omega) S3.out).out.mono ?_); rintro e w4 ⟨rfl, O4, g3, S4⟩; have G3 := Lib.hid g3; have S4 := Lib.hid S4; have l4 := Int.le_trans l3 (cnt_mono g3.mono 64); clear kF g3; have kF := blk_cell S4.out.hF 0; have k4 := Lib.hid True.intro))
          | (go_at_call 50; clear k4; ((refine (IH O4 (a : Int) ((b : Int) + 1) _ G3.out.h8 l4 (by omega) (by omega) S4.out).out.mono ?_); rintro e w5 ⟨rfl, O5, g4, S5⟩; have G := Lib.hid (Grown4.all HO8.out ha hb E1.out G1.out G2.out G3.out g4); have S5 := Lib.hid S5; clear kF g4)))
        go_end0
        exact ⟨rfl, _, G.out, S5.out⟩
      · have CH := fun w => Lib.hid (e1 ▸ c_has hs x y w h8)
        have CO := fun w => Lib.hid (e2 ▸ c_has8 O x y w hO8)
        have G := Lib.hid (Grown4.none (hs := hs) (O := O) (x := x) (y := y) hO8 (fun _ => e2))
        clear h8 hO8 hS e1 e2
        go_enter Try.func50, Try.ntmps50
        go_wp2_with (first
          | (refine wpList_load_row rfl 25 (.tmp 2) rfl gh rfl 25 (nums .u8 hs).toArray (0, 0) _ ?_ Try.underlying25 rfl HI.out ?_; (with_reducible exact HS.out.hH))
          | (go_at_call 29; ((with_reducible refine (CH _).out.mono ?_); rintro e w1 ⟨rfl, hb⟩; have HS := Lib.hid (HS.out.below hb hB); have e0 := nums_cell HS.out.hO 0 (by rw [HO8.out.len]; decide); have e1 := nums_cell HS.out.hO 1 (by rw [HO8.out.len]; decide); have e2 := nums_cell HS.out.hO 2 (by rw [HO8.out.len]; decide); have e3 := nums_cell HS.out.hO 3 (by rw [HO8.out.len]; decide); have e4 := nums_cell HS.out.hO 4 (by rw [HO8.out.len]; decide); have e5 := nums_cell HS.out.hO 5 (by rw [HO8.out.len]; decide); have e6 := nums_cell HS.out.hO 6 (by rw [HO8.out.len]; decide); have e7 := nums_cell HS.out.hO 7 (by rw [HO8.out.len]; decide); clear CH))
          | (go_at_call 29; ((with_reducible refine (CO _).out.mono ?_); rintro e w1 ⟨rfl, hb⟩; have HS := Lib.hid (HS.out.below hb hB))))
        exact bodyPost_ret (v := .tuple #[]) (by simp [results, Try.results50, go_sem]) rfl ⟨rfl, _, G.out, HS.out⟩
set_option maxHeartbeats 2000000 in
theorem c_spot (hs : List Int) (h8 : Holes8 hs) (a b : Nat) (ha : a < 8) (hb : b < 8) (w : World) :
    Calls Try.prog 42 #[.agg (nums .u8 hs).toArray, .int .i64 (a : Int), .int .i64 (b : Int)] w fun e w' => e = .returned (.agg (nums .u8 (spot hs (a : Int) (b : Int))).toArray) ∧ Below w.heap.size w w' := by
  have he : ∀ args w, (callFunc 50 args).run Try.prog w = .ok (.enter 50 args) w := enters_of Try.func50 (by kernel_rfl) rfl
  have hz : (nums .u8 noHoles).toArray = #[.int .u8 0, .int .u8 0, .int .u8 0, .int .u8 0, .int .u8 0, .int .u8 0, .int .u8 0, .int .u8 0] := rfl
  have HIS := Lib.hid (holes_info (spot8 hs (a : Int) (b : Int)).len)
  have LS := Lib.hid (spot8 hs (a : Int) (b : Int)).len
  have C := Lib.hid (c_spot1 hs h8 w.heap.size w.heap.size (w.heap.size + 1 + 1) (w.heap.size + 1 + 1 + 1) (w.heap.size + 1) w (by omega) (by omega) (by omega) (by omega) he 64 noHoles (a : Int) (b : Int))
  have g0 : ((((w.alloc (.cells (nums .u8 hs).toArray 25 (0, 0))).alloc (.cells #[.int .u8 0, .int .u8 0, .int .u8 0, .int .u8 0, .int .u8 0, .int .u8 0, .int .u8 0, .int .u8 0] 25 (0, 0))).alloc (.cells #[.int .u8 0, .int .u8 0, .int .u8 0, .int .u8 0, .int .u8 0, .int .u8 0, .int .u8 0, .int .u8 0] 25 (0, 0))).alloc (.cells #[(.func (.func 50) #[] #[.pointer (some ⟨w.heap.size, 0, none⟩), .pointer (some ⟨w.heap.size + 1 + 1, 0, none⟩), .pointer (some ⟨w.heap.size + 1 + 1 + 1, 0, none⟩)])] 49 (0, 0))).heap[w.heap.size]? = some (.cells (nums .u8 hs).toArray 25 (0, 0)) := blk_alloc (blk_alloc (blk_alloc (heap_alloc_new w _) _) _) _
  have g1 := heap_alloc_new (w.alloc (.cells (nums .u8 hs).toArray 25 (0, 0))) (.cells #[.int .u8 0, .int .u8 0, .int .u8 0, .int .u8 0, .int .u8 0, .int .u8 0, .int .u8 0, .int .u8 0] 25 (0, 0))
  rw [World.size_alloc] at g1
  have g1 : ((((w.alloc (.cells (nums .u8 hs).toArray 25 (0, 0))).alloc (.cells #[.int .u8 0, .int .u8 0, .int .u8 0, .int .u8 0, .int .u8 0, .int .u8 0, .int .u8 0, .int .u8 0] 25 (0, 0))).alloc (.cells #[.int .u8 0, .int .u8 0, .int .u8 0, .int .u8 0, .int .u8 0, .int .u8 0, .int .u8 0, .int .u8 0] 25 (0, 0))).alloc (.cells #[(.func (.func 50) #[] #[.pointer (some ⟨w.heap.size, 0, none⟩), .pointer (some ⟨w.heap.size + 1 + 1, 0, none⟩), .pointer (some ⟨w.heap.size + 1 + 1 + 1, 0, none⟩)])] 49 (0, 0))).heap[w.heap.size + 1]? = some (.cells #[.int .u8 0, .int .u8 0, .int .u8 0, .int .u8 0, .int .u8 0, .int .u8 0, .int .u8 0, .int .u8 0] 25 (0, 0)) := blk_alloc (blk_alloc g1 _) _
  have g2 := heap_alloc_new ((w.alloc (.cells (nums .u8 hs).toArray 25 (0, 0))).alloc (.cells #[.int .u8 0, .int .u8 0, .int .u8 0, .int .u8 0, .int .u8 0, .int .u8 0, .int .u8 0, .int .u8 0] 25 (0, 0))) (.cells #[.int .u8 0, .int .u8 0, .int .u8 0, .int .u8 0, .int .u8 0, .int .u8 0, .int .u8 0, .int .u8 0] 25 (0, 0))
  rw [World.size_alloc, World.size_alloc] at g2
  have g2 : ((((w.alloc (.cells (nums .u8 hs).toArray 25 (0, 0))).alloc (.cells #[.int .u8 0, .int .u8 0, .int .u8 0, .int .u8 0, .int .u8 0, .int .u8 0, .int .u8 0, .int .u8 0] 25 (0, 0))).alloc (.cells #[.int .u8 0, .int .u8 0, .int .u8 0, .int .u8 0, .int .u8 0, .int .u8 0, .int .u8 0, .int .u8 0] 25 (0, 0))).alloc (.cells #[(.func (.func 50) #[] #[.pointer (some ⟨w.heap.size, 0, none⟩), .pointer (some ⟨w.heap.size + 1 + 1, 0, none⟩), .pointer (some ⟨w.heap.size + 1 + 1 + 1, 0, none⟩)])] 49 (0, 0))).heap[w.heap.size + 1 + 1]? = some (.cells #[.int .u8 0, .int .u8 0, .int .u8 0, .int .u8 0, .int .u8 0, .int .u8 0, .int .u8 0, .int .u8 0] 25 (0, 0)) := blk_alloc g2 _
  have g3 := heap_alloc_new (((w.alloc (.cells (nums .u8 hs).toArray 25 (0, 0))).alloc (.cells #[.int .u8 0, .int .u8 0, .int .u8 0, .int .u8 0, .int .u8 0, .int .u8 0, .int .u8 0, .int .u8 0] 25 (0, 0))).alloc (.cells #[.int .u8 0, .int .u8 0, .int .u8 0, .int .u8 0, .int .u8 0, .int .u8 0, .int .u8 0, .int .u8 0] 25 (0, 0))) (.cells #[(.func (.func 50) #[] #[.pointer (some ⟨w.heap.size, 0, none⟩), .pointer (some ⟨w.heap.size + 1 + 1, 0, none⟩), .pointer (some ⟨w.heap.size + 1 + 1 + 1, 0, none⟩)])] 49 (0, 0))
  rw [World.size_alloc, World.size_alloc, World.size_alloc] at g3
  have hB : Below w.heap.size w ((((w.alloc (.cells (nums .u8 hs).toArray 25 (0, 0))).alloc (.cells #[.int .u8 0, .int .u8 0, .int .u8 0, .int .u8 0, .int .u8 0, .int .u8 0, .int .u8 0, .int .u8 0] 25 (0, 0))).alloc (.cells #[.int .u8 0, .int .u8 0, .int .u8 0, .int .u8 0, .int .u8 0, .int .u8 0, .int .u8 0, .int .u8 0] 25 (0, 0))).alloc (.cells #[(.func (.func 50) #[] #[.pointer (some ⟨w.heap.size, 0, none⟩), .pointer (some ⟨w.heap.size + 1 + 1, 0, none⟩), .pointer (some ⟨w.heap.size + 1 + 1 + 1, 0, none⟩)])] 49 (0, 0))) := by (repeat (first | with_reducible exact Below.refl _ _ | with_reducible refine below_alloc ?_ _ | with_reducible refine below_drew ?_ | with_reducible refine below_drewN ?_ _ | with_reducible refine below_then ?_ (by assumption)))
  have S0 : Hid (SpSt hs noHoles w.heap.size w.heap.size (w.heap.size + 1 + 1) (w.heap.size + 1 + 1 + 1) (w.heap.size + 1) w ((((w.alloc (.cells (nums .u8 hs).toArray 25 (0, 0))).alloc (.cells #[.int .u8 0, .int .u8 0, .int .u8 0, .int .u8 0, .int .u8 0, .int .u8 0, .int .u8 0, .int .u8 0] 25 (0, 0))).alloc (.cells #[.int .u8 0, .int .u8 0, .int .u8 0, .int .u8 0, .int .u8 0, .int .u8 0, .int .u8 0, .int .u8 0] 25 (0, 0))).alloc (.cells #[(.func (.func 50) #[] #[.pointer (some ⟨w.heap.size, 0, none⟩), .pointer (some ⟨w.heap.size + 1 + 1, 0, none⟩), .pointer (some ⟨w.heap.size + 1 + 1 + 1, 0, none⟩)])] 49 (0, 0)))) := ⟨g0, by rw [hz]; exact g2, g3, by rw [hz]; exact g1, hB⟩
  have C := Lib.hid ((C.out _ noHoles8 (by have := cnt_bd noHoles 64; omega) (by omega) (by omega) S0.out))
  clear h8 g0 g1 g2 g3 hB
  go_enter Try.func42, Try.ntmps42
  go_wp2_with (first
    | (go_at_call 50; (refine C.out.mono ?_); (rintro e w5 ⟨rfl, O', g, hS⟩; have G := Lib.hid g.spot; have HS := Lib.hid hS; clear g hS))
    | (refine wpList_load_row rfl 25 (.tmp 7) rfl (w.heap.size + 1 + 1) rfl 25 (nums .u8 (spot hs (a : Int) (b : Int))).toArray (0, 0) _ ?_ Try.underlying25 rfl HIS.out ?_; (rw [← G.out]; exact HS.out.hO))
    | (refine ev_store_row rfl 25 (.tmp 6) (.tmp 14) rfl (w.heap.size + 1) (nums .u8 (spot hs (a : Int) (b : Int))).toArray rfl rfl 25 (nums .u8 noHoles).toArray ?_ HIS.out (by simp [nums, noHoles, LS.out]) (nums_one _ _) ?_; (with_reducible exact HS.out.hR); intro w6 hblk ht; have hR3 := Lib.hid hblk; clear hblk))
  refine bodyPost_ret (v := .agg (nums .u8 (spot hs (a : Int) (b : Int))).toArray) (results_cell_row rfl _ _ (w.heap.size + 1) 25 (nums .u8 (spot hs (a : Int) (b : Int))).toArray (0, 0) _ rfl (by with_reducible exact hR3.out) Try.underlying25 rfl HIS.out) rfl ⟨rfl, HS.out.hB.trans (ht.below (by omega))⟩
end Go.Proofs.Ytcbegcekdmmjpaa
