/- The text of holes, by the program and by the reference. -/
import Derived.Test.YtcbegcekdmmjpaaHolesBase
import Derived.Test.YtcbegcekdmmjpaaEach
namespace Go.Proofs.Ytcbegcekdmmjpaa
open Go.RowKit
set_option linter.unusedVariables false
set_option linter.unusedSimpArgs false

set_option maxHeartbeats 400000 in
theorem c_has (hs : List Int) (x y : Int) (w : World) (h8 : Holes8 hs) :
    Calls Try.prog 29 #[.agg (nums .u8 hs).toArray, .int .i64 x, .int .i64 y] w fun e w' => e = .returned (.bool (hole hs x y)) ∧ Below w.heap.size w w' := by
  by_cases a1 : 0 ≤ x ∧ x < 8
  · obtain ⟨b1, b2⟩ := a1
    have i1 : inB x 0 7 = true := by simp [inB]; omega
    by_cases a2 : 0 ≤ y ∧ y < 8
    · obtain ⟨b3, b4⟩ := a2
      have i2 : inB y 0 7 = true := by simp [inB]; omega
      have hc := nums_cell (heap_alloc_new w (.cells (nums .u8 hs).toArray 25 (0, 0))) y.toNat (by rw [h8.len]; omega)
      have h2 := h8.bd y.toNat
      have h3 : 0 ≤ gi hs y.toNat / 2 ^ x.toNat := Int.ediv_nonneg h2.1 (Int.pow_nonneg (by omega))
      have E := Lib.hid h3
      have F : Hid (hole hs x y = (gi hs y.toNat / 2 ^ x.toNat % 2 == 1)) := by simp [Hid, hole, bitAt, b1, b2, b3, b4]
      clear h3 h8
      go_enter Try.func29, Try.ntmps29
      go_wp2_with (go_at_call 33; ((with_reducible refine (c_within _ _ _ _).mono ?_); rintro e w1 ⟨rfl, rfl⟩))
      have h4 : gi hs y.toNat / 2 ^ x.toNat ≤ 255 := Int.le_trans (Int.ediv_le_self _ h2.1) h2.2
      go_ret
      exact ⟨by rw [F.out, ← u8_and1 _ E.out h4]; rfl, by (repeat (first | with_reducible exact Below.refl _ _ | with_reducible refine below_alloc ?_ _ | with_reducible refine below_drew ?_ | with_reducible refine below_drewN ?_ _ | with_reducible refine below_then ?_ (by assumption)))⟩
    · have i2 : inB y 0 7 = false := by simp [inB]; omega
      have F : Hid (hole hs x y = false) := by simp [Hid, hole]; omega
      clear h8
      go_enter Try.func29, Try.ntmps29
      go_wp2_with (go_at_call 33; ((with_reducible refine (c_within _ _ _ _).mono ?_); rintro e w1 ⟨rfl, rfl⟩))
      go_ret
      exact ⟨by rw [F.out]; rfl, by (repeat (first | with_reducible exact Below.refl _ _ | with_reducible refine below_alloc ?_ _ | with_reducible refine below_drew ?_ | with_reducible refine below_drewN ?_ _ | with_reducible refine below_then ?_ (by assumption)))⟩
  · have i1 : inB x 0 7 = false := by simp [inB]; omega
    have F : Hid (hole hs x y = false) := by simp [Hid, hole]; omega
    clear h8
    go_enter Try.func29, Try.ntmps29
    go_wp2_with (go_at_call 33; ((with_reducible refine (c_within _ _ _ _).mono ?_); rintro e w1 ⟨rfl, rfl⟩))
    go_ret
    exact ⟨by rw [F.out]; rfl, by (repeat (first | with_reducible exact Below.refl _ _ | with_reducible refine below_alloc ?_ _ | with_reducible refine below_drew ?_ | with_reducible refine below_drewN ?_ _ | with_reducible refine below_then ?_ (by assumption)))⟩

def ch (b : Bool) : UInt8 := if b then 111 else 46
/-- The first j letters of row k. -/
def rowT (hs : List Int) (k j : Nat) : List UInt8 := (List.range j).map fun (x : Nat) => ch (hole hs (x : Int) (k : Int))
/-- The first k rows. -/
def txtT (hs : List Int) (k : Nat) : List UInt8 := (List.range k).flatMap fun y => rowT hs y 8 ++ [10]
theorem rowT_succ (hs : List Int) (k j : Nat) : rowT hs k (j + 1) = rowT hs k j ++ [ch (hole hs (j : Int) (k : Int))] := by
  simp [rowT, List.range_succ]
theorem txtT_succ (hs : List Int) (k : Nat) : txtT hs (k + 1) = txtT hs k ++ rowT hs k 8 ++ [10] := by
  simp [txtT, List.range_succ, List.flatMap_append]
theorem rowT_len (hs : List Int) (k j : Nat) : (rowT hs k j).length = j := by simp [rowT]
theorem txtT_len (hs : List Int) : ∀ k, (txtT hs k).length = 9 * k
  | 0 => rfl
  | k + 1 => by rw [txtT_succ]; simp [txtT_len hs k, rowT_len]; omega

/-- The text after n stitches. -/
def txtN (hs : List Int) (n : Nat) : List UInt8 := txtT hs (n / 8) ++ rowT hs (n / 8) (n % 8)
theorem txtN_step (hs : List Int) (k j : Nat) (hj : j < 7) : txtN hs (8 * k + j + 1) = txtN hs (8 * k + j) ++ [ch (hole hs (j : Int) (k : Int))] := by
  simp only [txtN]
  rw [show (8 * k + j + 1) / 8 = k by omega, show (8 * k + j + 1) % 8 = j + 1 by omega, show (8 * k + j) / 8 = k by omega, show (8 * k + j) % 8 = j by omega, rowT_succ, List.append_assoc]
theorem txtN_last (hs : List Int) (k : Nat) : txtN hs (8 * k + 7 + 1) = txtN hs (8 * k + 7) ++ [ch (hole hs 7 (k : Int))] ++ [10] := by
  simp only [txtN]
  rw [show (8 * k + 7 + 1) / 8 = k + 1 by omega, show (8 * k + 7 + 1) % 8 = 0 by omega, show (8 * k + 7) / 8 = k by omega, show (8 * k + 7) % 8 = 7 by omega, txtT_succ, rowT_succ]
  simp [rowT]
theorem txtN_len (hs : List Int) (n : Nat) (h : n ≤ 64) : (txtN hs n).length ≤ 80 := by
  simp only [txtN, List.length_append, txtT_len, rowT_len]
  omega

/-- What the closure knows: the holes' box g0, the variable 'out' at g1, and its row. -/
structure St (hs : List Int) (B g0 g1 base : Nat) (w0 : World) (txt : List UInt8) (v : Value) (w : World) : Prop where
  hA : w.heap[g0]? = some (.cells (nums .u8 hs).toArray 25 (0, 0))
  hV : w.heap[g1]? = some (.cells #[v] 22 (0, 0))
  hO : w.ownsRow base 5 1 v txt.length (bytesV txt)
  hB : Below B w0 w
  hS : base ≤ w.heap.size
section
variable {hs : List Int} {B g0 g1 base : Nat} {w0 w w1 : World} {txt : List UInt8} {v v1 : Value}
theorem St.below (h : St hs B g0 g1 base w0 txt v w) (hB : B ≤ base) (hb : Below w.heap.size w w1) : St hs B g0 g1 base w0 txt v w1 :=
  ⟨blk_below h.hA hb, blk_below h.hV hb, own_below h.hO hb, h.hB.trans (hb.mono (Nat.le_trans hB h.hS)), Nat.le_trans h.hS hb.size⟩
theorem St.v3 (h : St hs B g0 g1 base w0 txt v w) (h1 : g1 < base) (hg : w.grownBy w1 v.ownBlock) : w1.heap[g1]? = some (.cells #[v] 22 (0, 0)) := blk_grown h.hV hg h.hO h1
theorem St.push (h : St hs B g0 g1 base w0 txt v w) (hB : B ≤ g1) (h0 : g0 < base) (h1 : g1 < base) (h01 : g0 ≠ g1) (hg : w.grownBy w1 v.ownBlock) (c : UInt8) (ho : w1.ownsRow base 5 1 v1 (txt.length + 1) (bytesV txt ++ [.int .u8 (c.toNat : Int)])) :
    St hs B g0 g1 base w0 (txt ++ [c]) v1 (w1.setCell ⟨g1, 0, none⟩ v1) := by
  refine ⟨blk_far (blk_grown h.hA hg h.hO h0) h01 _ _, ?_, ?_, ?_, ?_⟩
  · have := blk_set (blk_grown h.hV hg h.hO h1) 0 v1
    simpa using this
  · have := own_tou ho (Tou.setCell w1 g1 0 v1) h1
    rw [bytesV_append]
    simpa [bytesV] using this
  · exact (below_grown h.hB hg h.hO (by omega) (by have := h.hS; omega)).setCell (by simpa using hB) _
  · have := h.hS; have := hg.size; simp; omega
end

def InvT (hs : List Int) (B g0 g1 base : Nat) (w0 : World) (n : Nat) (w : World) : Prop := ∃ v, St hs B g0 g1 base w0 (txtN hs n) v w

set_option maxHeartbeats 1600000 in
theorem c_HolesText1 (hs : List Int) (h8 : Holes8 hs) (B g0 g1 base : Nat) (w0 : World) (hB0 : B ≤ g0) (hB1 : B ≤ g1) (h0 : g0 < base) (h1 : g1 < base) (h01 : g0 ≠ g1) (k j : Nat) (w1 : World) (hk : k < 8) (hj : j < 8)
    (hI : InvT hs B g0 g1 base w0 (8 * k + j) w1) :
    Calls Try.prog 28 (#[.int .i64 j, .int .i64 k] ++ #[.pointer (some ⟨g0, 0, none⟩), .pointer (some ⟨g1, 0, none⟩)]) w1 fun e w2 => e = .returned (.tuple #[]) ∧ InvT hs B g0 g1 base w0 (8 * k + j + 1) w2 := by
  obtain ⟨v, hI⟩ := hI
  have hi : (Try.prog.info? 25).map (·.size) = some (nums .u8 hs).toArray.size := by
    have e : (Try.prog.info? 25).map (·.size) = some 8 := by kernel_rfl
    rw [e]; simp [nums, h8.len]
  have HI := Lib.hid hi
  have H := Lib.hid hI
  have H8 := Lib.hid h8
  have HL := Lib.hid (txtN_len hs (8 * k + j) (by omega))
  clear hi hI h8
  show Calls Try.prog 28 #[.int .i64 j, .int .i64 k, .pointer (some ⟨g0, 0, none⟩), .pointer (some ⟨g1, 0, none⟩)] w1 _
  by_cases h7 : j = 7
  · subst h7
    have K := Lib.hid (txtN_last hs k)
    cases hh : hole hs 7 (k : Int)
    · go_enter Try.func28, Try.ntmps28
      go_wp2_with (first
        | (refine wpList_load_row rfl 25 (.tmp 2) rfl g0 rfl 25 _ (0, 0) _ H.out.hA Try.underlying25 rfl HI.out ?_)
        | (go_at_call 29; ((with_reducible refine (c_has hs _ _ _ H8.out).mono ?_); rintro e w2 ⟨rfl, hb⟩; have H2 := Lib.hid (H.out.below (by omega) hb); have c2 := blk_cell H2.out.hV 0; have f2 := blk_frozen H2.out.hV 0; have z2 := Lib.hid H2.out.hS))
        | (at_builtin; refine ap1 rfl (.tmp 13) (.tmp 14) 22 5 rfl (.int .u8 0) 1 1 base Try.underlying22 (by kernel_rfl) rfl (by decide) v _ (bytesV (txtN hs (8 * k + 7))) [.int .u8 46] rfl rfl (by simp) rfl rfl H2.out.hO z2.out (by have := HL.out; omega) (by have := HL.out; omega) ?_; intro g3 d3 w3 hown3 hg3 _; have c3 := blk_cell (H2.out.v3 h1 hg3) 0; have f3 := blk_frozen (H2.out.v3 h1 hg3) 0; have H3 := Lib.hid (H2.out.push hB1 h0 h1 h01 hg3 46 hown3); have z3 := Lib.hid H3.out.hS; clear hown3 hg3)
        | (at_builtin; refine ap1 rfl (.tmp 18) (.tmp 19) 22 5 rfl (.int .u8 0) 1 1 base Try.underlying22 (by kernel_rfl) rfl (by decide) (.slice (some ⟨g3, 0, none⟩) _ d3) _ (bytesV (txtN hs (8 * k + 7) ++ [46])) [.int .u8 10] rfl rfl (by simp) rfl rfl H3.out.hO z3.out (by have := HL.out; simp; omega) (by have := HL.out; simp; omega) ?_; intro g4 d4 w4 hown4 hg4 _; have c4 := blk_cell (H3.out.v3 h1 hg4) 0; have f4 := blk_frozen (H3.out.v3 h1 hg4) 0; have H4 := Lib.hid (H3.out.push hB1 h0 h1 h01 hg4 10 hown4); clear hown4 hg4))
      go_end0
      exact ⟨rfl, _, by have h := H4.out; simp only [List.length_append, List.length_singleton] at h; rw [K.out, hh]; exact h⟩
    · go_enter Try.func28, Try.ntmps28
      go_wp2_with (first
        | (refine wpList_load_row rfl 25 (.tmp 2) rfl g0 rfl 25 _ (0, 0) _ H.out.hA Try.underlying25 rfl HI.out ?_)
        | (go_at_call 29; ((with_reducible refine (c_has hs _ _ _ H8.out).mono ?_); rintro e w2 ⟨rfl, hb⟩; have H2 := Lib.hid (H.out.below (by omega) hb); have c2 := blk_cell H2.out.hV 0; have f2 := blk_frozen H2.out.hV 0; have z2 := Lib.hid H2.out.hS))
        | (at_builtin; refine ap1 rfl (.tmp 10) (.tmp 11) 22 5 rfl (.int .u8 0) 1 1 base Try.underlying22 (by kernel_rfl) rfl (by decide) v _ (bytesV (txtN hs (8 * k + 7))) [.int .u8 111] rfl rfl (by simp) rfl rfl H2.out.hO z2.out (by have := HL.out; omega) (by have := HL.out; omega) ?_; intro g3 d3 w3 hown3 hg3 _; have c3 := blk_cell (H2.out.v3 h1 hg3) 0; have f3 := blk_frozen (H2.out.v3 h1 hg3) 0; have H3 := Lib.hid (H2.out.push hB1 h0 h1 h01 hg3 111 hown3); have z3 := Lib.hid H3.out.hS; clear hown3 hg3)
        | (at_builtin; refine ap1 rfl (.tmp 18) (.tmp 19) 22 5 rfl (.int .u8 0) 1 1 base Try.underlying22 (by kernel_rfl) rfl (by decide) (.slice (some ⟨g3, 0, none⟩) _ d3) _ (bytesV (txtN hs (8 * k + 7) ++ [111])) [.int .u8 10] rfl rfl (by simp) rfl rfl H3.out.hO z3.out (by have := HL.out; simp; omega) (by have := HL.out; simp; omega) ?_; intro g4 d4 w4 hown4 hg4 _; have c4 := blk_cell (H3.out.v3 h1 hg4) 0; have f4 := blk_frozen (H3.out.v3 h1 hg4) 0; have H4 := Lib.hid (H3.out.push hB1 h0 h1 h01 hg4 10 hown4); clear hown4 hg4))
      go_end0
      exact ⟨rfl, _, by have h := H4.out; simp only [List.length_append, List.length_singleton] at h; rw [K.out, hh]; exact h⟩
  · have K := Lib.hid (txtN_step hs k j (by omega))
    have d7 : ((j : Int) == 7) = false := by simp; omega
    cases hh : hole hs (j : Int) (k : Int)
    · go_enter Try.func28, Try.ntmps28
      go_wp2_with (first
        | (refine wpList_load_row rfl 25 (.tmp 2) rfl g0 rfl 25 _ (0, 0) _ H.out.hA Try.underlying25 rfl HI.out ?_)
        | (go_at_call 29; ((with_reducible refine (c_has hs _ _ _ H8.out).mono ?_); rintro e w2 ⟨rfl, hb⟩; have H2 := Lib.hid (H.out.below (by omega) hb); have c2 := blk_cell H2.out.hV 0; have f2 := blk_frozen H2.out.hV 0; have z2 := Lib.hid H2.out.hS))
        | (at_builtin; refine ap1 rfl (.tmp 13) (.tmp 14) 22 5 rfl (.int .u8 0) 1 1 base Try.underlying22 (by kernel_rfl) rfl (by decide) v _ (bytesV (txtN hs (8 * k + j))) [.int .u8 46] rfl rfl (by simp) rfl rfl H2.out.hO z2.out (by have := HL.out; omega) (by have := HL.out; omega) ?_; intro g3 d3 w3 hown3 hg3 _; have c3 := blk_cell (H2.out.v3 h1 hg3) 0; have f3 := blk_frozen (H2.out.v3 h1 hg3) 0; have H3 := Lib.hid (H2.out.push hB1 h0 h1 h01 hg3 46 hown3); have z3 := Lib.hid H3.out.hS; clear hown3 hg3))
      go_end0
      exact ⟨rfl, _, by rw [K.out, hh]; exact H3.out⟩
    · go_enter Try.func28, Try.ntmps28
      go_wp2_with (first
        | (refine wpList_load_row rfl 25 (.tmp 2) rfl g0 rfl 25 _ (0, 0) _ H.out.hA Try.underlying25 rfl HI.out ?_)
        | (go_at_call 29; ((with_reducible refine (c_has hs _ _ _ H8.out).mono ?_); rintro e w2 ⟨rfl, hb⟩; have H2 := Lib.hid (H.out.below (by omega) hb); have c2 := blk_cell H2.out.hV 0; have f2 := blk_frozen H2.out.hV 0; have z2 := Lib.hid H2.out.hS))
        | (at_builtin; refine ap1 rfl (.tmp 10) (.tmp 11) 22 5 rfl (.int .u8 0) 1 1 base Try.underlying22 (by kernel_rfl) rfl (by decide) v _ (bytesV (txtN hs (8 * k + j))) [.int .u8 111] rfl rfl (by simp) rfl rfl H2.out.hO z2.out (by have := HL.out; omega) (by have := HL.out; omega) ?_; intro g3 d3 w3 hown3 hg3 _; have c3 := blk_cell (H2.out.v3 h1 hg3) 0; have f3 := blk_frozen (H2.out.v3 h1 hg3) 0; have H3 := Lib.hid (H2.out.push hB1 h0 h1 h01 hg3 111 hown3); have z3 := Lib.hid H3.out.hS; clear hown3 hg3))
      go_end0
      exact ⟨rfl, _, by rw [K.out, hh]; exact H3.out⟩

set_option maxHeartbeats 800000 in
theorem c_iHolesText (hs : List Int) (w : World) (h8 : Holes8 hs) :
    Calls Try.prog 8 #[.agg (nums .u8 hs).toArray] w fun e w' => e = .returned (.string (str (txtT hs 8))) ∧ Below w.heap.size w w' := by
  have H8 := Lib.hid h8
  have he : ∀ args w, (callFunc 28 args).run Try.prog w = .ok (.enter 28 args) w := enters_of Try.func28 (by kernel_rfl) rfl
  have HE := Lib.hid he
  have HN : Hid (((w.alloc (.cells (nums .u8 hs).toArray 25 (0, 0))).alloc (.cells #[.slice none 0 0] 22 (0, 0))).heap[w.heap.size]? = some (.cells (nums .u8 hs).toArray 25 (0, 0))) := blk_alloc (heap_alloc_new _ _) _
  have HN1 : Hid (((w.alloc (.cells (nums .u8 hs).toArray 25 (0, 0))).alloc (.cells #[.slice none 0 0] 22 (0, 0))).heap[w.heap.size + 1]? = some (.cells #[.slice none 0 0] 22 (0, 0))) := by
    have := heap_alloc_new (w.alloc (.cells (nums .u8 hs).toArray 25 (0, 0))) (.cells #[.slice none 0 0] 22 (0, 0))
    rwa [World.size_alloc] at this
  clear h8 he
  go_enter Try.func8, Try.ntmps8
  go_wp2_with (go_at_call 26; ((with_reducible refine (c_each 28 _ HE.out (InvT hs w.heap.size w.heap.size (w.heap.size + 1) (w.heap.size + 2) w) (fun k j w1 hk hj hI => c_HolesText1 hs H8.out _ _ _ _ w (Nat.le_refl _) (by omega) (by omega) (by omega) (by omega) k j w1 hk hj hI) _ ?_).mono ?_)))
  · exact ⟨_, HN.out, HN1.out, own_nil _ _ _ _, by (repeat (first | with_reducible exact Below.refl _ _ | with_reducible refine below_alloc ?_ _ | with_reducible refine below_drew ?_ | with_reducible refine below_drewN ?_ _ | with_reducible refine below_then ?_ (by assumption))), by simp⟩
  · rintro e w2 ⟨rfl, v, hI⟩
    have c2 := blk_cell hI.hV 0
    have hcv := own_string Try.underlying22 Try.underlying5 Try.underlying9 hI.hO
    go_wp2
    go_ret
    exact ⟨by simp only [txtN]; simp [rowT], hI.hB⟩
end Go.Proofs.Ytcbegcekdmmjpaa
