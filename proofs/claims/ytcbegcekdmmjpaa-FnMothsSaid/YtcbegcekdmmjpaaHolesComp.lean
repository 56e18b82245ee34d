/- Spots of holes: what hangs together, plainly. -/
import Derived.Test.YtcbegcekdmmjpaaHolesPure
namespace Go.Proofs.Ytcbegcekdmmjpaa
open Go.RowKit
set_option linter.unusedVariables false
set_option linter.unusedSimpArgs false

def adj (a b c d : Int) : Prop := (c = a - 1 ∧ d = b) ∨ (c = a + 1 ∧ d = b) ∨ (c = a ∧ d = b - 1) ∨ (c = a ∧ d = b + 1)
theorem adj_symm {a b c d : Int} (h : adj a b c d) : adj c d a b := by unfold adj at *; omega
/-- From (x, y) one comes to (a, b) over neighbouring holes. -/
inductive Reach (hs : List Int) (x y : Int) : Int → Int → Prop
  | here : hole hs x y = true → Reach hs x y x y
  | step {a b c d : Int} : Reach hs x y a b → adj a b c d → hole hs c d = true → Reach hs x y c d
theorem Reach.start {hs : List Int} {x y a b : Int} (h : Reach hs x y a b) : hole hs x y = true := by
  induction h with
  | here h => exact h
  | step _ _ _ ih => exact ih
theorem Reach.stop {hs : List Int} {x y a b : Int} (h : Reach hs x y a b) : hole hs a b = true := by
  cases h with
  | here h => exact h
  | step _ _ h => exact h
theorem Reach.cons {hs : List Int} {x y c d a b : Int} (h0 : hole hs x y = true) (ha : adj x y c d) (h : Reach hs c d a b) : Reach hs x y a b := by
  induction h with
  | here h => exact .step (.here h0) ha h
  | step _ h1 h2 ih => exact .step ih h1 h2
theorem Reach.trans {hs : List Int} {x y c d a b : Int} (h : Reach hs x y c d) (k : Reach hs c d a b) : Reach hs x y a b := by
  induction k with
  | here _ => exact h
  | step _ h1 h2 ih => exact .step ih h1 h2
theorem Reach.symm {hs : List Int} {x y a b : Int} (h : Reach hs x y a b) : Reach hs a b x y := by
  induction h with
  | here h => exact .here h
  | step h0 h1 h2 ih => exact .cons h2 (adj_symm h1) ih

theorem hole_range {hs : List Int} {x y : Int} (h : hole hs x y = true) : ∃ a b : Nat, a < 8 ∧ b < 8 ∧ x = a ∧ y = b := by
  by_cases e : 0 ≤ x ∧ 0 ≤ y ∧ x < 8 ∧ y < 8
  · exact ⟨x.toNat, y.toNat, by omega, by omega, by omega, by omega⟩
  · rw [hole_off e] at h; cases h
theorem hole_addI {O : List Int} (h : Holes8 O) {x y : Nat} (hx : x < 8) (hy : y < 8) (a b : Int) : hole (addAt O x y) a b = true ↔ (a = x ∧ b = y) ∨ hole O a b = true := by
  constructor
  · intro e
    obtain ⟨p, q, hp, hq, rfl, rfl⟩ := hole_range e
    rw [hole_addAt h hx hy hp hq] at e
    simp only [Bool.or_eq_true, Bool.and_eq_true, decide_eq_true_eq] at e
    rcases e with ⟨rfl, rfl⟩ | e
    · exact .inl ⟨rfl, rfl⟩
    · exact .inr e
  · rintro (⟨rfl, rfl⟩ | e)
    · rw [hole_addAt h hx hy hx hy]; simp
    · obtain ⟨p, q, hp, hq, rfl, rfl⟩ := hole_range e
      rw [hole_addAt h hx hy hp hq, e]; simp
theorem hole_mkI (f : Nat → Nat → Bool) (a b : Int) : hole (mk f) a b = true ↔ ∃ x y : Nat, x < 8 ∧ y < 8 ∧ a = x ∧ b = y ∧ f x y = true := by
  constructor
  · intro e
    obtain ⟨p, q, hp, hq, rfl, rfl⟩ := hole_range e
    rw [hole_mk _ hp hq] at e
    exact ⟨p, q, hp, hq, rfl, rfl, e⟩
  · rintro ⟨x, y, hx, hy, rfl, rfl, e⟩
    rw [hole_mk _ hx hy]; exact e
theorem holes_extI {a b : List Int} (ha : Holes8 a) (hb : Holes8 b) (h : ∀ x y : Int, hole a x y = true ↔ hole b x y = true) : a = b :=
  holes_ext ha hb fun x y _ _ => by rw [Bool.eq_iff_iff]; exact h x y

open Classical in
/-- The spot of (x, y). -/
noncomputable def spot (hs : List Int) (x y : Int) : List Int := mk fun a b => decide (Reach hs x y (a : Int) (b : Int))
theorem spot8 (hs : List Int) (x y : Int) : Holes8 (spot hs x y) := mk8 _
theorem hole_spot (hs : List Int) (x y a b : Int) : hole (spot hs x y) a b = true ↔ Reach hs x y a b := by
  unfold spot
  rw [hole_mkI]
  constructor
  · rintro ⟨p, q, hp, hq, rfl, rfl, e⟩
    simpa using e
  · intro h
    obtain ⟨p, q, hp, hq, rfl, rfl⟩ := hole_range h.stop
    exact ⟨p, q, hp, hq, rfl, rfl, by simpa using h⟩
theorem spot_unique {hs o : List Int} {x y : Int} (ho : Holes8 o) (h1 : ∀ a b, hole o a b = true → Reach hs x y a b) (h2 : hole hs x y = true → hole o x y = true)
    (h3 : ∀ a b c d, hole o a b = true → adj a b c d → hole hs c d = true → hole o c d = true) : o = spot hs x y := by
  refine holes_extI ho (spot8 _ _ _) fun a b => ⟨fun h => (hole_spot _ _ _ _ _).2 (h1 a b h), fun h => ?_⟩
  have hr := (hole_spot _ _ _ _ _).1 h
  clear h
  induction hr with
  | here h => exact h2 h
  | step _ ha hh ih => exact h3 _ _ _ _ ih ha hh

/-! ### How many, again -/
theorem cnt_mono {A B : List Int} (h : ∀ a b, hole A a b = true → hole B a b = true) : ∀ n, cnt A n ≤ cnt B n
  | 0 => by simp [cnt]
  | n + 1 => by
    have ih := cnt_mono h n
    simp only [cnt]
    by_cases e : hole A ((n % 8 : Nat) : Int) ((n / 8 : Nat) : Int) = true
    · rw [if_pos e, if_pos (h _ _ e)]; omega
    · rw [if_neg e]; split <;> omega
theorem cnt_less {A B : List Int} (h : ∀ a b, hole A a b = true → hole B a b = true) {m : Nat} (hA : ¬ hole A ((m % 8 : Nat) : Int) ((m / 8 : Nat) : Int) = true) (hB : hole B ((m % 8 : Nat) : Int) ((m / 8 : Nat) : Int) = true) : ∀ n, m < n → cnt A n + 1 ≤ cnt B n
  | 0, hm => by omega
  | n + 1, hm => by
    simp only [cnt]
    by_cases e : m = n
    · subst e
      have := cnt_mono h m
      rw [if_neg hA, if_pos hB]; omega
    · have ih := cnt_less h hA hB n (by omega)
      by_cases e2 : hole A ((n % 8 : Nat) : Int) ((n / 8 : Nat) : Int) = true
      · rw [if_pos e2, if_pos (h _ _ e2)]; omega
      · rw [if_neg e2]; split <;> omega
theorem cnt_less_at {A B : List Int} (h : ∀ a b, hole A a b = true → hole B a b = true) {x y : Int} (hA : ¬ hole A x y = true) (hB : hole B x y = true) : cnt A 64 + 1 ≤ cnt B 64 := by
  obtain ⟨p, q, hp, hq, rfl, rfl⟩ := hole_range hB
  refine cnt_less h (m := 8 * q + p) ?_ ?_ 64 (by omega)
  · rw [show (8 * q + p) % 8 = p by omega, show (8 * q + p) / 8 = q by omega]; exact hA
  · rw [show (8 * q + p) % 8 = p by omega, show (8 * q + p) / 8 = q by omega]; exact hB

/-! ### A spot that grows, stitch by stitch -/
structure Grown4 (hs O : List Int) (x y : Int) (O' : List Int) : Prop where
  h8 : Holes8 O'
  mono : ∀ a b, hole O a b = true → hole O' a b = true
  sound : ∀ a b, hole O' a b = true → hole O a b = true ∨ Reach hs x y a b
  have_ : hole hs x y = true → hole O' x y = true
  closed : ∀ a b c d, hole O' a b = true → ¬ hole O a b = true → adj a b c d → hole hs c d = true → hole O' c d = true
theorem Grown4.none {hs O : List Int} {x y : Int} (h8 : Holes8 O) (h : hole hs x y = true → hole O x y = true) : Grown4 hs O x y O :=
  ⟨h8, fun _ _ h => h, fun _ _ h => .inl h, h, fun _ _ _ _ h1 h2 _ _ => absurd h1 h2⟩
theorem Grown4.all {hs O O2 O3 O4 O5 : List Int} {x y : Nat} (h8 : Holes8 O) (hx : x < 8) (hy : y < 8) (h0 : hole hs (x : Int) (y : Int) = true)
    (g1 : Grown4 hs (addAt O x y) ((x : Int) - 1) (y : Int) O2) (g2 : Grown4 hs O2 ((x : Int) + 1) (y : Int) O3) (g3 : Grown4 hs O3 (x : Int) ((y : Int) - 1) O4) (g4 : Grown4 hs O4 (x : Int) ((y : Int) + 1) O5) : Grown4 hs O (x : Int) (y : Int) O5 := by
  have m5 : ∀ a b, hole O5 a b = true ↔ hole O5 a b = true := fun _ _ => Iff.rfl
  have u4 := g4.mono
  have u3 : ∀ a b, hole O3 a b = true → hole O5 a b = true := fun a b h => u4 a b (g3.mono a b h)
  have u2 : ∀ a b, hole O2 a b = true → hole O5 a b = true := fun a b h => u3 a b (g2.mono a b h)
  have u1 : ∀ a b, hole (addAt O x y) a b = true → hole O5 a b = true := fun a b h => u2 a b (g1.mono a b h)
  have hxy : hole O5 (x : Int) (y : Int) = true := u1 _ _ ((hole_addI h8 hx hy _ _).2 (.inl ⟨rfl, rfl⟩))
  refine ⟨g4.h8, fun a b h => u1 a b ((hole_addI h8 hx hy _ _).2 (.inr h)), fun a b h => ?_, fun _ => hxy, fun a b c d h hn ha hc => ?_⟩
  · rcases g4.sound a b h with h | h
    · rcases g3.sound a b h with h | h
      · rcases g2.sound a b h with h | h
        · rcases g1.sound a b h with h | h
          · rcases (hole_addI h8 hx hy _ _).1 h with ⟨rfl, rfl⟩ | h
            · exact .inr (.here h0)
            · exact .inl h
          · exact .inr (.cons h0 (by unfold adj; omega) h)
        · exact .inr (.cons h0 (by unfold adj; omega) h)
      · exact .inr (.cons h0 (by unfold adj; omega) h)
    · exact .inr (.cons h0 (by unfold adj; omega) h)
  · by_cases e1 : hole (addAt O x y) a b = true
    · rcases (hole_addI h8 hx hy _ _).1 e1 with ⟨rfl, rfl⟩ | e1
      · rcases ha with ⟨rfl, rfl⟩ | ⟨rfl, rfl⟩ | ⟨rfl, rfl⟩ | ⟨rfl, rfl⟩
        · exact u2 _ _ (g1.have_ hc)
        · exact u3 _ _ (g2.have_ hc)
        · exact u4 _ _ (g3.have_ hc)
        · exact g4.have_ hc
      · exact absurd e1 hn
    · by_cases e2 : hole O2 a b = true
      · exact u2 _ _ (g1.closed a b c d e2 e1 ha hc)
      · by_cases e3 : hole O3 a b = true
        · exact u3 _ _ (g2.closed a b c d e3 e2 ha hc)
        · by_cases e4 : hole O4 a b = true
          · exact u4 _ _ (g3.closed a b c d e4 e3 ha hc)
          · exact g4.closed a b c d h e4 ha hc
def noHoles : List Int := List.replicate 8 0
theorem noHoles8 : Holes8 noHoles := ⟨rfl, by simp [noHoles]⟩
theorem hole_none (x y : Int) : ¬ hole noHoles x y = true := by
  intro h
  obtain ⟨p, q, hp, hq, rfl, rfl⟩ := hole_range h
  rw [hole_in hp hq] at h
  have e : gi noHoles q = 0 := by unfold gi noHoles; rw [List.getD_eq_getElem?_getD, List.getElem?_replicate]; split <;> rfl
  rw [e] at h
  simp [bitAt] at h
theorem Grown4.spot {hs O : List Int} {x y : Int} (g : Grown4 hs noHoles x y O) : O = spot hs x y :=
  spot_unique g.h8 (fun a b h => (g.sound a b h).resolve_left (hole_none a b)) g.have_ (fun a b c d h ha hc => g.closed a b c d h (hole_none a b) ha hc)

/-! ### A spot that grows, ring by ring -/
def ring (hs o : List Int) : List Int := mk fun a b => hole hs (a : Int) (b : Int) && (hole o (a : Int) (b : Int) || decide (1 ≤ nb o (a : Int) (b : Int)))
theorem ring8 (hs o : List Int) : Holes8 (ring hs o) := mk8 _
theorem nb_one {o : List Int} {a b : Int} : 1 ≤ nb o a b ↔ ∃ c d, adj a b c d ∧ hole o c d = true := by
  constructor
  · intro h
    by_cases h1 : hole o (a - 1) b = true
    · exact ⟨_, _, .inl ⟨rfl, rfl⟩, h1⟩
    · by_cases h2 : hole o (a + 1) b = true
      · exact ⟨_, _, .inr (.inl ⟨rfl, rfl⟩), h2⟩
      · by_cases h3 : hole o a (b - 1) = true
        · exact ⟨_, _, .inr (.inr (.inl ⟨rfl, rfl⟩)), h3⟩
        · by_cases h4 : hole o a (b + 1) = true
          · exact ⟨_, _, .inr (.inr (.inr ⟨rfl, rfl⟩)), h4⟩
          · simp [nb, b2i, h1, h2, h3, h4] at h
  · rintro ⟨c, d, ha, h⟩
    have p := fun b : Bool => show 0 ≤ b2i b by unfold b2i; split <;> omega
    have p1 := p (hole o (a - 1) b)
    have p2 := p (hole o (a + 1) b)
    have p3 := p (hole o a (b - 1))
    have p4 := p (hole o a (b + 1))
    unfold nb
    rcases ha with ⟨rfl, rfl⟩ | ⟨rfl, rfl⟩ | ⟨rfl, rfl⟩ | ⟨rfl, rfl⟩
    · have : b2i (hole o (a - 1) d) = 1 := by rw [h]; rfl
      omega
    · have : b2i (hole o (a + 1) d) = 1 := by rw [h]; rfl
      omega
    · have : b2i (hole o c (b - 1)) = 1 := by rw [h]; rfl
      omega
    · have : b2i (hole o c (b + 1)) = 1 := by rw [h]; rfl
      omega
theorem hole_ring (hs o : List Int) (a b : Int) : hole (ring hs o) a b = true ↔ hole hs a b = true ∧ (hole o a b = true ∨ ∃ c d, adj a b c d ∧ hole o c d = true) := by
  unfold ring
  rw [hole_mkI]
  constructor
  · rintro ⟨p, q, hp, hq, rfl, rfl, e⟩
    simp only [Bool.and_eq_true, Bool.or_eq_true, decide_eq_true_eq, nb_one] at e
    exact e
  · intro h
    obtain ⟨p, q, hp, hq, rfl, rfl⟩ := hole_range h.1
    refine ⟨p, q, hp, hq, rfl, rfl, ?_⟩
    simp only [Bool.and_eq_true, Bool.or_eq_true, decide_eq_true_eq, nb_one]
    exact h
structure Ring (hs : List Int) (x y : Int) (o : List Int) : Prop where
  h8 : Holes8 o
  sound : ∀ a b, hole o a b = true → Reach hs x y a b
  have_ : hole o x y = true
theorem Ring.next {hs o : List Int} {x y : Int} (h : Ring hs x y o) : Ring hs x y (ring hs o) := by
  refine ⟨ring8 _ _, fun a b e => ?_, (hole_ring _ _ _ _).2 ⟨(h.sound _ _ h.have_).start, .inl h.have_⟩⟩
  obtain ⟨h1, h2 | ⟨c, d, ha, h2⟩⟩ := (hole_ring _ _ _ _).1 e
  · exact h.sound a b h2
  · exact .step (h.sound c d h2) (adj_symm ha) h1
theorem Ring.mono {hs o : List Int} {x y : Int} (h : Ring hs x y o) (a b : Int) (e : hole o a b = true) : hole (ring hs o) a b = true :=
  (hole_ring _ _ _ _).2 ⟨(h.sound a b e).stop, .inl e⟩
theorem Ring.last {hs o : List Int} {x y : Int} (h : Ring hs x y o) (e : ring hs o = o) : o = spot hs x y :=
  spot_unique h.h8 h.sound (fun _ => h.have_) fun a b c d h1 h2 h3 => by
    rw [← e]
    exact (hole_ring _ _ _ _).2 ⟨h3, .inr ⟨a, b, adj_symm h2, h1⟩⟩
theorem Ring.grows {hs o : List Int} {x y : Int} (h : Ring hs x y o) (e : ring hs o ≠ o) : cnt o 64 + 1 ≤ cnt (ring hs o) 64 := by
  by_cases k : ∃ a b, hole (ring hs o) a b = true ∧ ¬ hole o a b = true
  · obtain ⟨a, b, k1, k2⟩ := k
    exact cnt_less_at h.mono k2 k1
  · exfalso
    refine e (holes_extI (ring8 _ _) h.h8 fun a b => ⟨fun k1 => ?_, h.mono a b⟩)
    by_cases k2 : hole o a b = true
    · exact k2
    · exact absurd ⟨a, b, k1, k2⟩ k
theorem Ring.first {hs : List Int} {x y : Nat} (hx : x < 8) (hy : y < 8) (h : hole hs (x : Int) (y : Int) = true) : Ring hs (x : Int) (y : Int) (addAt noHoles x y) := by
  refine ⟨noHoles8.addAt hx, fun a b e => ?_, (hole_addI noHoles8 hx hy _ _).2 (.inl ⟨rfl, rfl⟩)⟩
  rcases (hole_addI noHoles8 hx hy _ _).1 e with ⟨rfl, rfl⟩ | e
  · exact .here h
  · exact absurd e (hole_none _ _)

/-! ### All spots -/
def less (a b : List Int) : List Int := mk fun x y => hole a (x : Int) (y : Int) && !hole b (x : Int) (y : Int)
theorem less8 (a b : List Int) : Holes8 (less a b) := mk8 _
theorem hole_less (a b : List Int) (x y : Int) : hole (less a b) x y = true ↔ hole a x y = true ∧ ¬ hole b x y = true := by
  unfold less
  rw [hole_mkI]
  constructor
  · rintro ⟨p, q, hp, hq, rfl, rfl, e⟩
    simpa using e
  · intro h
    obtain ⟨p, q, hp, hq, rfl, rfl⟩ := hole_range h.1
    exact ⟨p, q, hp, hq, rfl, rfl, by simpa using h⟩
/-- The spots met among the first n stitches, and the holes that are left. -/
noncomputable def spotsN (hs : List Int) : Nat → List (List Int) × List Int
  | 0 => ([], hs)
  | n + 1 =>
    let r := spotsN hs n
    if hole r.2 ((n % 8 : Nat) : Int) ((n / 8 : Nat) : Int) then (r.1 ++ [spot hs ((n % 8 : Nat) : Int) ((n / 8 : Nat) : Int)], less r.2 (spot hs ((n % 8 : Nat) : Int) ((n / 8 : Nat) : Int))) else r
/-- What is left is made of whole spots. -/
structure Whole (hs left : List Int) : Prop where
  h8 : Holes8 left
  sub : ∀ a b, hole left a b = true → hole hs a b = true
  closed : ∀ a b c d, hole left a b = true → adj a b c d → hole hs c d = true → hole left c d = true
theorem Whole.reach {hs left : List Int} (h : Whole hs left) {x y a b : Int} (h0 : hole left x y = true) : Reach left x y a b ↔ Reach hs x y a b := by
  constructor
  · intro r
    induction r with
    | here e => exact .here (h.sub _ _ e)
    | step _ h1 h2 ih => exact .step ih h1 (h.sub _ _ h2)
  · intro r
    induction r with
    | here e => exact .here h0
    | step _ h1 h2 ih => exact .step ih h1 (h.closed _ _ _ _ ih.stop h1 h2)
theorem Whole.spot {hs left : List Int} (h : Whole hs left) {x y : Int} (h0 : hole left x y = true) : spot left x y = spot hs x y :=
  holes_extI (spot8 _ _ _) (spot8 _ _ _) fun a b => by rw [hole_spot, hole_spot]; exact h.reach h0
theorem Whole.less {hs left : List Int} (h : Whole hs left) {x y : Int} : Whole hs (less left (Go.Proofs.Ytcbegcekdmmjpaa.spot hs x y)) := by
  refine ⟨less8 _ _, fun a b e => h.sub a b ((hole_less _ _ _ _).1 e).1, fun a b c d e ha hc => ?_⟩
  obtain ⟨e1, e2⟩ := (hole_less _ _ _ _).1 e
  refine (hole_less _ _ _ _).2 ⟨h.closed a b c d e1 ha hc, fun k => e2 ?_⟩
  rw [hole_spot] at k ⊢
  exact .step k (adj_symm ha) (h.sub a b e1)
theorem spotsN_whole {hs : List Int} (h8 : Holes8 hs) : ∀ n, Whole hs (spotsN hs n).2
  | 0 => ⟨h8, fun _ _ h => h, fun _ _ _ _ _ _ h => h⟩
  | n + 1 => by
    have ih := spotsN_whole h8 n
    simp only [spotsN]
    split
    · exact ih.less
    · exact ih
theorem spotsN_all8 {hs : List Int} : ∀ n, ∀ s ∈ (spotsN hs n).1, Holes8 s
  | 0 => by simp [spotsN]
  | n + 1 => by
    have ih := spotsN_all8 (hs := hs) n
    simp only [spotsN]
    split
    · intro s hs'
      rcases List.mem_append.1 hs' with h | h
      · exact ih s h
      · rw [List.mem_singleton.1 h]; exact spot8 _ _ _
    · exact ih
theorem spotsN_len (hs : List Int) : ∀ n, (spotsN hs n).1.length ≤ n
  | 0 => by simp [spotsN]
  | n + 1 => by
    have ih := spotsN_len hs n
    simp only [spotsN]
    split
    · simp; omega
    · omega
noncomputable def spots (hs : List Int) : List (List Int) := (spotsN hs 64).1
theorem spotsN_at (hs : List Int) (k j : Nat) (hj : j < 8) : spotsN hs (8 * k + j + 1) = if hole (spotsN hs (8 * k + j)).2 (j : Int) (k : Int) then ((spotsN hs (8 * k + j)).1 ++ [spot hs (j : Int) (k : Int)], less (spotsN hs (8 * k + j)).2 (spot hs (j : Int) (k : Int))) else spotsN hs (8 * k + j) := by
  simp only [spotsN]
  rw [show (8 * k + j) % 8 = j by omega, show (8 * k + j) / 8 = k by omega]
end Go.Proofs.Ytcbegcekdmmjpaa
