/- How things lie in the law on lots. -/
import Derived.Test.YtfdljhepfoppaaaPlnEnd
import Derived.Test.YtfdljhepfoppaaaEvOps
namespace Go.Proofs.Ytfdljhepfoppaaa
open Go.RowKit
set_option linter.unusedVariables false
set_option linter.unusedSimpArgs false
set_option maxRecDepth 100000

/-- A row: element's type, cells of one, the slice, how many, the cells. -/
structure Rw where
  t : TypeId
  s : Nat
  v : Value
  n : Nat
  xs : List Value
structure RL (W : World) (R : List Rw) (w : World) : Prop where
  b : Below W.heap.size W w
  r : ∀ x ∈ R, w.ownsRow W.heap.size x.t x.s x.v x.n x.xs
section
variable {W w w1 : World} {R : List Rw}
theorem RL.below (h : RL W R w) (hb : Below w.heap.size w w1) : RL W R w1 := ⟨below_then h.b hb, fun x hx => own_below (h.r x hx) hb⟩
theorem RL.addR (h : RL W R w) (x : Rw) (hv : w.ownsRow W.heap.size x.t x.s x.v x.n x.xs) : RL W (x :: R) w :=
  ⟨h.b, fun y hy => by rcases List.mem_cons.1 hy with rfl | hy; exact hv; exact h.r y hy⟩
theorem RL.drew (h : RL W R w) (n : Nat) : RL W R (w.drewN n) := ⟨below_drewN h.b n, h.r⟩
theorem RL.sub {R' : List Rw} (h : RL W R w) (hs : ∀ p ∈ R', p ∈ R) : RL W R' w := ⟨h.b, fun p hp => h.r p (hs p hp)⟩
theorem RL.row (h : RL W R w) {t : TypeId} {s : Nat} {v : Value} {n : Nat} {xs : List Value} (hm : (⟨t, s, v, n, xs⟩ : Rw) ∈ R) : w.ownsRow W.heap.size t s v n xs := h.r _ hm
theorem RL.lots (h : RL W R w) {T : TypeId} {A : Option Addr} {c : Nat} {L : List (Int × Int)} (hm : (⟨T, 2, .slice A L.length c, L.length, ltRow L⟩ : Rw) ∈ R) : LotsAt w A L.length (lS L) (lG L) := lotsAt_of (own_rd (h.r _ hm))
theorem RL.i64 (h : RL W R w) {A : Option Addr} {n c : Nat} {zs : List Int} (hm : (⟨2, 1, .slice A n c, n, nums .i64 zs⟩ : Rw) ∈ R) : RdRow w A (nums .i64 zs) := own_rd (h.r _ hm)
theorem RL.lt (h : RL W R w) {T : TypeId} {g c : Nat} {L : List (Int × Int)} (hm : (⟨T, 2, .slice (some ⟨g, 0, none⟩) L.length c, L.length, ltRow L⟩ : Rw) ∈ R) {i : Nat} (hi : i < L.length) : w.cell? ⟨g, i * 2, none⟩ = some (.int .i8 (lS L i)) ∧ w.cell? ⟨g, i * 2 + 1, none⟩ = some (.int .i16 (lG L i)) := by
  obtain ⟨ad, e, c0, c1⟩ := (h.lots hm).at_ i hi
  cases e
  have ea : (Addr.add ⟨g, 0, none⟩ (i * 2)) = ⟨g, i * 2, none⟩ := by unfold Addr.add; split <;> simp_all
  rw [ea] at c0 c1
  exact ⟨c0, c1⟩
theorem RL.num (h : RL W R w) {g n c : Nat} {zs : List Int} (hm : (⟨2, 1, .slice (some ⟨g, 0, none⟩) n c, n, nums .i64 zs⟩ : Rw) ∈ R) {j : Nat} (hj : j < zs.length) : w.cell? ⟨g, j, none⟩ = some (.int .i64 (gi zs j)) := (own_get (h.r _ hm) (nums_get hj)).1
end
theorem own_differL {w : World} {b b' e e' s s' n n' : Nat} {v u : Value} {xs ys : List Value} (h : w.ownsRow b e s v n xs) (h' : w.ownsRow b' e' s' u n' ys) (he : e ≠ e') : v.ownBlock = none ∨ v.ownBlock ≠ u.ownBlock := by
  rcases h.2 with ⟨rfl, _⟩ | ⟨g, c, cur, rfl, _, hg, _⟩
  · exact .inl rfl
  · rcases h'.2 with ⟨rfl, _⟩ | ⟨g', c', cur', rfl, _, hg', _⟩
    · exact .inr (by simp [Value.ownBlock])
    · refine .inr fun hh => ?_
      simp only [Value.ownBlock, Option.some.injEq] at hh
      subst hh
      rw [hg] at hg'
      simp only [Option.some.injEq, Obj.cells.injEq] at hg'
      exact he hg'.2.1
theorem RL.grown {W w w1 : World} {R : List Rw} (h : RL W R w) {T s n : Nat} {v : Value} {xs : List Value} (hv : w.ownsRow W.heap.size T s v n xs) (hT : ∀ x ∈ R, x.t ≠ T) (hg : w.grownBy w1 v.ownBlock) : RL W R w1 :=
  ⟨below_grown h.b hg hv (Nat.le_refl _) h.b.size, fun x hx => (h.r x hx).kept hg (own_differL (h.r x hx) hv (hT x hx))⟩
theorem servT_bd (P : List Int) (k : Nat) : 0 ≤ servT P k ∧ servT P k ≤ (k : Int) := by
  have h1 := tot_nonneg (f := fun j => if 0 ≤ gi P j then (1 : Int) else 0) k (fun i _ => by split <;> omega)
  have h2 := tot_le (f := fun j => if 0 ≤ gi P j then (1 : Int) else 0) (B := 1) (by omega) k (fun i _ => by split <;> omega)
  unfold servT
  omega
theorem takeT_bd {O : List (Int × Int)} (hb : ∀ j, 0 ≤ lG O j ∧ lG O j ≤ 60) (P : List Int) (i k : Nat) : 0 ≤ tot (takeF (lG O) P i) k ∧ tot (takeF (lG O) P i) k ≤ 60 * (k : Int) := by
  have h1 := tot_nonneg (f := takeF (lG O) P i) k (fun j _ => by have := hb j; unfold takeF; split <;> omega)
  have h2 := tot_le (f := takeF (lG O) P i) (B := 60) (by omega) k (fun j _ => by have := hb j; unfold takeF; split <;> omega)
  exact ⟨h1, h2⟩
theorem openT_bd (O : List (Int × Int)) (P : List Int) (k : Nat) : 0 ≤ openT O P k ∧ openT O P k ≤ (k : Int) := by
  have h1 := tot_nonneg (f := fun i => if 0 < tot (takeF (lG O) P i) O.length then (1 : Int) else 0) k (fun i _ => by split <;> omega)
  have h2 := tot_le (f := fun i => if 0 < tot (takeF (lG O) P i) O.length then (1 : Int) else 0) (B := 1) (by omega) k (fun i _ => by split <;> omega)
  unfold openT
  omega
theorem lostT_bd {R : List Int} (hb : ∀ j, 0 ≤ gi R j ∧ gi R j ≤ 5000) (O : List (Int × Int)) (P : List Int) (keep : Int) (k : Nat) : 0 ≤ lostT O P R keep k ∧ lostT O P R keep k ≤ 5000 * (k : Int) := by
  have h1 := tot_nonneg (f := fun i => if 0 < tot (takeF (lG O) P i) O.length ∧ gi R i < keep then gi R i else 0) k (fun i _ => by have := hb i; split <;> omega)
  have h2 := tot_le (f := fun i => if 0 < tot (takeF (lG O) P i) O.length ∧ gi R i < keep then gi R i else 0) (B := 5000) (by omega) k (fun i _ => by have := hb i; split <;> omega)
  exact ⟨h1, h2⟩
/-- What lots (or orders) of one shade weigh. -/
def shT (L : List (Int × Int)) (sh : Nat) : Nat → Int := tot fun i => if lS L i = (sh : Int) then lG L i else 0
theorem shT_bd {L : List (Int × Int)} (hb : ∀ j, 0 ≤ lG L j ∧ lG L j ≤ 120) (sh k : Nat) : 0 ≤ shT L sh k ∧ shT L sh k ≤ 120 * (k : Int) := by
  have h1 := tot_nonneg (f := fun i => if lS L i = (sh : Int) then lG L i else 0) k (fun j _ => by have := hb j; split <;> omega)
  have h2 := tot_le (f := fun i => if lS L i = (sh : Int) then lG L i else 0) (B := 120) (by omega) k (fun j _ => by have := hb j; split <;> omega)
  exact ⟨h1, h2⟩
/-- An append of a literal of m elements, as an event. -/
theorem apM {P : Program} {ops : Array Oper} {rest : List Oper} {o : Oper} {a : Act} {Q : Exit → Act → World → Prop} {W : World} (m : Nat) (hm0 : 0 < m) (hgd : o.guard = none) (s x : Operand) (t e : TypeId)
    (ho : o.op = .call { callee := .builtin .append, args := #[s, x], argTypes := #[t, t] }) (z : Value) (size bytes base : Nat)
    (ht : P.underlying t = some (.slice e)) (hinfo : (P.info? e).map (fun i => (i.zero, i.size, i.bytes)) = some (some z, size, bytes)) (hz : z.cells.size = size) (hs0 : 0 < size)
    (v : Value) (n : Nat) (xs : List Value) (news : List Value) (hs : a.eval s = v) {gx : Nat} (hx : a.eval x = .slice (some ⟨gx, 0, none⟩) m m) (hgx : gx = W.heap.size) (hn : news.length = m * size) (h1 : news.all (·.oneCell') = true)
    (hown : W.ownsRow base e size v n xs) (hbase : base ≤ W.heap.size) (hl : (n + m) * bytes ≤ 140737488355328) (hl2 : n + m ≤ 140737488355328)
    (h : ∀ g c w1, w1.ownsRow base e size (.slice (some ⟨g, 0, none⟩) (n + m) c) (n + m) (xs ++ news) → W.grownBy w1 v.ownBlock → wpList P ops Q rest (a.put o.dst (.slice (some ⟨g, 0, none⟩) (n + m) c)) w1) :
    wpList P ops Q (o :: rest) a (W.alloc (.cells news.toArray e (0, 0))) := by
  subst hgx
  obtain ⟨i0, hi, hzz⟩ := Option.map_eq_some_iff.1 hinfo
  simp only [Prod.mk.injEq] at hzz
  obtain ⟨hz0, hz1, hz2⟩ := hzz
  refine wpList_append_own_at (W.alloc (.cells news.toArray e (0, 0))) hgd s x t ho base e i0 z size bytes ht hi hz0 hz1 hz2 hz hs0 v n xs hs (hown.alloc _) ⟨W.heap.size, 0, none⟩ m m news hx (by simp [hn])
    (World.news_of_block (cs := news.toArray) (t := e) (fr := (0, 0)) (heap_alloc_new W _)) (fun u hu => (List.all_eq_true.1 h1) u hu) (by simp only [maxLen]; omega) hl (by simp; omega) ?_
  intro v1 w1 hown1 hg _ hat
  obtain ⟨g, c, rfl, _, _⟩ := hown1.form (by omega)
  exact h g c w1 hown1 (World.grownBy.trans (World.grownBy_alloc W _ _) hg)
end Go.Proofs.Ytfdljhepfoppaaa
