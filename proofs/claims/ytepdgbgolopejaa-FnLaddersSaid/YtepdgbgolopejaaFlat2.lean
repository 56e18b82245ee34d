/- Flat shapes, opened number by number. -/
import Derived.Test.YtepdgbgolopejaaFlat
namespace Go.Proofs.Ytepdgbgolopejaa
open Go.RowKit Go.ChangeShapes Go.WideShapes Go.ChangeAt

theorem intCells1 {k0 : IntKind} {cs : List Value} (h : IntCells [k0] cs) : ∃ a0 : Int, cs = [.int k0 a0] ∧ (Lit.int k0 a0).wf = true := by
  match cs, h with
  | [c0], h =>
    obtain ⟨⟨a0, rfl, w0⟩, _⟩ := h
    exact ⟨a0, rfl, w0⟩

theorem intCells2 {k0 k1 : IntKind} {cs : List Value} (h : IntCells [k0, k1] cs) : ∃ a0 a1 : Int, cs = [.int k0 a0, .int k1 a1] ∧ (Lit.int k0 a0).wf = true ∧ (Lit.int k1 a1).wf = true := by
  match cs, h with
  | [c0, c1], h =>
    obtain ⟨⟨a0, rfl, w0⟩, ⟨a1, rfl, w1⟩, _⟩ := h
    exact ⟨a0, a1, rfl, w0, w1⟩

theorem intCells3 {k0 k1 k2 : IntKind} {cs : List Value} (h : IntCells [k0, k1, k2] cs) : ∃ a0 a1 a2 : Int, cs = [.int k0 a0, .int k1 a1, .int k2 a2] ∧ (Lit.int k0 a0).wf = true ∧ (Lit.int k1 a1).wf = true ∧ (Lit.int k2 a2).wf = true := by
  match cs, h with
  | [c0, c1, c2], h =>
    obtain ⟨⟨a0, rfl, w0⟩, ⟨a1, rfl, w1⟩, ⟨a2, rfl, w2⟩, _⟩ := h
    exact ⟨a0, a1, a2, rfl, w0, w1, w2⟩

theorem intCells4 {k0 k1 k2 k3 : IntKind} {cs : List Value} (h : IntCells [k0, k1, k2, k3] cs) : ∃ a0 a1 a2 a3 : Int, cs = [.int k0 a0, .int k1 a1, .int k2 a2, .int k3 a3] ∧ (Lit.int k0 a0).wf = true ∧ (Lit.int k1 a1).wf = true ∧ (Lit.int k2 a2).wf = true ∧ (Lit.int k3 a3).wf = true := by
  match cs, h with
  | [c0, c1, c2, c3], h =>
    obtain ⟨⟨a0, rfl, w0⟩, ⟨a1, rfl, w1⟩, ⟨a2, rfl, w2⟩, ⟨a3, rfl, w3⟩, _⟩ := h
    exact ⟨a0, a1, a2, a3, rfl, w0, w1, w2, w3⟩

theorem intCells5 {k0 k1 k2 k3 k4 : IntKind} {cs : List Value} (h : IntCells [k0, k1, k2, k3, k4] cs) : ∃ a0 a1 a2 a3 a4 : Int, cs = [.int k0 a0, .int k1 a1, .int k2 a2, .int k3 a3, .int k4 a4] ∧ (Lit.int k0 a0).wf = true ∧ (Lit.int k1 a1).wf = true ∧ (Lit.int k2 a2).wf = true ∧ (Lit.int k3 a3).wf = true ∧ (Lit.int k4 a4).wf = true := by
  match cs, h with
  | [c0, c1, c2, c3, c4], h =>
    obtain ⟨⟨a0, rfl, w0⟩, ⟨a1, rfl, w1⟩, ⟨a2, rfl, w2⟩, ⟨a3, rfl, w3⟩, ⟨a4, rfl, w4⟩, _⟩ := h
    exact ⟨a0, a1, a2, a3, a4, rfl, w0, w1, w2, w3, w4⟩

theorem intCells6 {k0 k1 k2 k3 k4 k5 : IntKind} {cs : List Value} (h : IntCells [k0, k1, k2, k3, k4, k5] cs) : ∃ a0 a1 a2 a3 a4 a5 : Int, cs = [.int k0 a0, .int k1 a1, .int k2 a2, .int k3 a3, .int k4 a4, .int k5 a5] ∧ (Lit.int k0 a0).wf = true ∧ (Lit.int k1 a1).wf = true ∧ (Lit.int k2 a2).wf = true ∧ (Lit.int k3 a3).wf = true ∧ (Lit.int k4 a4).wf = true ∧ (Lit.int k5 a5).wf = true := by
  match cs, h with
  | [c0, c1, c2, c3, c4, c5], h =>
    obtain ⟨⟨a0, rfl, w0⟩, ⟨a1, rfl, w1⟩, ⟨a2, rfl, w2⟩, ⟨a3, rfl, w3⟩, ⟨a4, rfl, w4⟩, ⟨a5, rfl, w5⟩, _⟩ := h
    exact ⟨a0, a1, a2, a3, a4, a5, rfl, w0, w1, w2, w3, w4, w5⟩

theorem intRows {k : IntKind} : ∀ {es : List (List Value)}, (∀ c ∈ es, IntCells [k] c) → ∃ zs : List Int, es = zs.map (fun z => [Value.int k z]) ∧ ∀ z ∈ zs, (Lit.int k z).wf = true
  | [], _ => ⟨[], rfl, by simp⟩
  | c :: es, h => by
    obtain ⟨zs, h1, h2⟩ := intRows (es := es) (fun c hc => h c (by simp [hc]))
    have h3 := h c (by simp)
    match c, h3 with
    | [v], h3 =>
      obtain ⟨⟨z, rfl, hz⟩, _⟩ := h3
      refine ⟨z :: zs, by simp [h1], ?_⟩
      intro y hy
      rcases List.mem_cons.1 hy with rfl | hy
      · exact hz
      · exact h2 y hy

theorem flatten_ones {k : IntKind} (zs : List Int) : (zs.map (fun z => [Value.int k z])).flatten = nums k zs := by
  induction zs with
  | nil => rfl
  | cons z zs ih => simp only [List.map_cons, List.flatten_cons, ih]; rfl

theorem below_alloc {w W : World} (h : Below w.heap.size w W) (o : Obj) : Below w.heap.size w (W.alloc o) := h.alloc h.size o
theorem below_drew {B : Nat} {w W : World} (h : Below B w W) : Below B w W.drew := ⟨h.os, h.tape, h.output, h.size, h.block⟩
theorem below_drewN {B : Nat} {w W : World} (h : Below B w W) (n : Nat) : Below B w (W.drewN n) := ⟨h.os, h.tape, h.output, h.size, h.block⟩
theorem below_then {w w1 w2 : World} (h : Below w.heap.size w w1) (k : Below w1.heap.size w1 w2) : Below w.heap.size w w2 :=
  h.trans ⟨k.os, k.tape, k.output, k.size, fun i hi => k.block i (Nat.lt_of_lt_of_le hi h.size)⟩
theorem bfacts {w w1 : World} (h : Below w.heap.size w w1) : (∀ b o, b < w.heap.size → w1.cell? ⟨b, o, none⟩ = w.cell? ⟨b, o, none⟩) ∧ (∀ b o, b < w.heap.size → w1.frozen? ⟨b, o, none⟩ = w.frozen? ⟨b, o, none⟩) ∧ w.heap.size ≤ w1.heap.size :=
  ⟨fun b o hb => h.cell (p := ⟨b, o, none⟩) hb, fun b o hb => h.frozen (p := ⟨b, o, none⟩) hb, h.size⟩
theorem wf_u8 {z : Int} (h : (Lit.int .u8 z).wf = true) : 0 ≤ z ∧ z ≤ 255 := by
  simp [Lit.wf, IntKind.min, IntKind.max, IntKind.signed, IntKind.bits] at h; omega
theorem wf_i8 {z : Int} (h : (Lit.int .i8 z).wf = true) : -128 ≤ z ∧ z ≤ 127 := by
  simp [Lit.wf, IntKind.min, IntKind.max, IntKind.signed, IntKind.bits] at h; omega
theorem wf_i16 {z : Int} (h : (Lit.int .i16 z).wf = true) : -32768 ≤ z ∧ z ≤ 32767 := by
  simp [Lit.wf, IntKind.min, IntKind.max, IntKind.signed, IntKind.bits] at h; omega
theorem wf_i32 {z : Int} (h : (Lit.int .i32 z).wf = true) : -2147483648 ≤ z ∧ z ≤ 2147483647 := by
  simp [Lit.wf, IntKind.min, IntKind.max, IntKind.signed, IntKind.bits] at h; omega
theorem wf_i64 {z : Int} (h : (Lit.int .i64 z).wf = true) : -9223372036854775808 ≤ z ∧ z ≤ 9223372036854775807 := by
  simp [Lit.wf, IntKind.min, IntKind.max, IntKind.signed, IntKind.bits] at h; omega
end Go.Proofs.Ytepdgbgolopejaa
