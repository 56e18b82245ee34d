/- Flat shapes: values whose cells are whole numbers (structs and arrays of such), read out of an argument. -/
import Derived.WalkKit
import Derived.ProofKit
import Derived.OpenShut
import Derived.ShutString
import Derived.ChangeOld
import Derived.Below
import Derived.SizedLaws
import Derived.Deep.Slices
import Derived.Lib.Hide
import Derived.Deep.Draws
import Derived.Deep.QuietTactic
import Derived.BigQuiet
namespace Go.Proofs.Ytepdgbgolopejaa
open Go.RowKit Go.ChangeShapes Go.WideShapes Go.ChangeAt

def nums (k : IntKind) (xs : List Int) : List Value := xs.map fun x => .int k x
theorem nums_length (k : IntKind) (xs : List Int) : (nums k xs).length = xs.length := by simp [nums]

/-- Cells that hold whole numbers of these kinds, each one fitting. -/
def IntCells : List IntKind → List Value → Prop
  | [], [] => True
  | k :: ks, v :: vs => (∃ n, v = .int k n ∧ (Lit.int k n).wf = true) ∧ IntCells ks vs
  | _, _ => False

theorem IntCells.length : ∀ {ks : List IntKind} {cs : List Value}, IntCells ks cs → cs.length = ks.length
  | [], [], _ => rfl
  | _ :: _, _ :: _, h => by simp [IntCells.length h.2]
  | [], _ :: _, h => h.elim
  | _ :: _, [], h => h.elim

theorem IntCells.append : ∀ {ks ks' : List IntKind} {cs cs' : List Value}, IntCells ks cs → IntCells ks' cs' → IntCells (ks ++ ks') (cs ++ cs')
  | [], _, [], _, _, h' => h'
  | _ :: _, _, _ :: _, _, h, h' => ⟨h.1, IntCells.append h.2 h'⟩
  | [], _, _ :: _, _, h, _ => h.elim
  | _ :: _, _, [], _, h, _ => h.elim

theorem IntCells.all : ∀ {n : Nat} {k : IntKind} {cs : List Value}, IntCells (List.replicate n k) cs → ∃ zs : List Int, zs.length = n ∧ cs = nums k zs ∧ ∀ z ∈ zs, (Lit.int k z).wf = true
  | 0, _, [], _ => ⟨[], rfl, rfl, by simp⟩
  | 0, _, _ :: _, h => h.elim
  | _ + 1, _, [], h => h.elim
  | n + 1, k, v :: vs, h => by
    obtain ⟨⟨x, rfl, hx⟩, h2⟩ := h
    obtain ⟨zs, h3, h4, h5⟩ := IntCells.all h2
    refine ⟨x :: zs, by simp [h3], by simp [nums, h4], ?_⟩
    intro z hz
    rcases List.mem_cons.1 hz with rfl | hz
    · exact hx
    · exact h5 z hz

def flatFields (P : Program) (r : TypeId → Option (List IntKind)) : List Field → Nat → Option (List IntKind)
  | [], _ => some []
  | f :: fs, o => match r f.type with
    | some ks => if f.offset = o ∧ P.cellsOf f.type = ks.length then (flatFields P r fs (o + ks.length)).map (ks ++ ·) else none
    | none => none

def flatKinds (P : Program) : Nat → TypeId → Option (List IntKind)
  | 0, _ => none
  | n + 1, t => match P.underlying t with
    | some (.int k) => some [k]
    | some (.array m e) => match flatKinds P n e with
      | some ks => if P.cellsOf e = ks.length ∧ P.cellsOf t = m * ks.length then some (List.replicate m ks).flatten else none
      | none => none
    | some (.struct fs) => match flatFields P (flatKinds P n) fs.toList 0 with
      | some ks => if P.cellsOf t = ks.length then some ks else none
      | none => none
    | _ => none

theorem flatFields_cells {P : Program} {r : TypeId → Option (List IntKind)} {cs : List Value} {R : TypeId → List Value → Prop} (hr : ∀ t ks, r t = some ks → ∀ cs, R t cs → IntCells ks cs) :
    ∀ (fs : List Field) (o : Nat) (ks : List IntKind), flatFields P r fs o = some ks → (∀ f ∈ fs, R f.type ((cs.drop f.offset).take (P.cellsOf f.type))) → IntCells ks ((cs.drop o).take ks.length)
  | [], o, ks, h, _ => by
    simp only [flatFields, Option.some.injEq] at h
    subst h
    simp [IntCells]
  | f :: fs, o, ks, h, hf => by
    simp only [flatFields] at h
    split at h
    · rename_i k1 hk1
      split at h
      · rename_i hc
        obtain ⟨k2, h2, rfl⟩ := Option.map_eq_some_iff.1 h
        have e1 := hr _ _ hk1 _ (hf f (by simp))
        rw [hc.1, hc.2] at e1
        have e2 := flatFields_cells hr fs _ _ h2 (fun g hg => hf g (by simp [hg]))
        rw [List.length_append, List.take_add, List.drop_drop]
        exact e1.append e2
      · cases h
    · cases h

theorem flat_array {ks : List IntKind} {cs : List Value} {c : Nat} (hc : c = ks.length) : ∀ (m j : Nat), (∀ i, j ≤ i → i < j + m → IntCells ks ((cs.drop (i * c)).take c)) → IntCells (List.replicate m ks).flatten ((cs.drop (j * c)).take (m * c))
  | 0, j, _ => by simp [IntCells]
  | m + 1, j, h => by
    have e1 := h j (Nat.le_refl _) (by omega)
    have e2 := flat_array hc m (j + 1) (fun i h1 h2 => h i (by omega) (by omega))
    rw [show (m + 1) * c = c + m * c by rw [Nat.succ_mul, Nat.add_comm], List.take_add, List.drop_drop, List.replicate_succ, List.flatten_cons]
    rw [show j * c + c = (j + 1) * c by rw [Nat.succ_mul]]
    exact e1.append e2

theorem flat_trod {H : Type} {enc : TypeId × Value → H} {P : Program} {w : World} {base : Nat} {spare : Nat → Bool} {held : Bool} :
    ∀ (n : Nat) (t : TypeId) (ks : List IntKind), flatKinds P n t = some ks → ∀ (fuel : Nat) (cs : List Value) (x : DataW H × List MemPlace), DataW.trod enc P w base spare held fuel t cs = some x → IntCells ks cs
  | 0, _, _, h => by simp [flatKinds] at h
  | n + 1, t, ks, h => by
    intro fuel cs x hx
    unfold flatKinds at h
    split at h
    · rename_i k hk
      simp only [Option.some.injEq] at h
      subst h
      obtain ⟨z, rfl, _, hz⟩ := DataW.trod_int hk hx
      exact ⟨⟨z, rfl, hz⟩, trivial⟩
    · rename_i m e hk
      split at h
      · rename_i ke hke
        split at h
        · rename_i hc
          simp only [Option.some.injEq] at h
          subst h
          obtain ⟨xs, f, rfl, _, hl, hxl, hi⟩ := DataW.trod_array hk hx
          have := flat_array (cs := cs) (ks := ke) hc.1 m 0 (fun i _ hi2 => by
            have := hi i (by omega)
            rw [List.getElem?_eq_getElem (by omega)] at this
            exact flat_trod n e ke hke _ _ _ this)
          rw [Nat.zero_mul, List.drop_zero, hc.1, ← hc.2, ← hl, List.take_length] at this
          exact this
        · cases h
      · cases h
    · rename_i fs hk
      split at h
      · rename_i kf hkf
        split at h
        · rename_i hc
          simp only [Option.some.injEq] at h
          subst h
          obtain ⟨xs, f, rfl, _, hl, hxl, hi⟩ := DataW.trod_struct hk hx
          have := flatFields_cells (P := P) (cs := cs) (R := fun t c => ∃ x, DataW.trod enc P w base spare held f t c = some x) (fun t' ks' h' cs' ⟨x', hx'⟩ => flat_trod n t' ks' h' f cs' x' hx') fs.toList 0 kf hkf (fun g hg => by
            obtain ⟨i, hi1, hi2⟩ := List.mem_iff_getElem.1 hg
            have hg' : fs[i]? = some g := by
              rw [← Array.getElem?_toList, List.getElem?_eq_getElem hi1, hi2]
            have := hi i g hg'
            rw [List.getElem?_eq_getElem (by rw [hxl]; simpa using hi1)] at this
            exact ⟨_, this⟩)
          rw [List.drop_zero, ← hc, ← hl, List.take_length] at this
          exact this
        · cases h
      · cases h
    · cases h

/-- A value of a flat struct type. -/
theorem open_flat_struct {H : Type} {enc : TypeId × Value → H} {P : Program} {w : World} {base b0 : Nat} {spare : Nat → Bool} {held : Bool} {r : Reach} {t : TypeId} {fs : Array Field} {v : Value} {d : DataW H} {ps : List MemPlace} {ks : List IntKind}
    (ht : P.underlying t = some (.struct fs)) (hk : flatKinds P 8 t = some ks) (hv : Value.okWide P w r b0 t v) (h : DataW.Trod enc P w base spare held t v d ps) : ∃ cs : List Value, v = .agg cs.toArray ∧ IntCells ks cs := by
  obtain ⟨cs, rfl, _⟩ := okWide_struct ht hv
  obtain ⟨fuel, hf⟩ := h
  exact ⟨cs.toList, by simp, flat_trod 8 t ks hk fuel _ _ hf⟩

theorem okWide_array' {P : Program} {w : World} {r : Reach} {base : Nat} {t e : TypeId} {n : Nat} {v : Value} (ht : P.underlying t = some (.array n e)) (h : Value.okWide P w r base t v) : ∃ cs, v = .agg cs ∧ cs.size = P.cellsOf t := by
  unfold Value.okWide at h
  rw [ht] at h
  obtain ⟨cs, h1, h2, _⟩ := h
  exact ⟨cs, h1, h2⟩

/-- A value of an array of whole numbers. -/
theorem open_flat_array {H : Type} {enc : TypeId × Value → H} {P : Program} {w : World} {base b0 : Nat} {spare : Nat → Bool} {held : Bool} {r : Reach} {t e : TypeId} {n : Nat} {k : IntKind} {v : Value} {d : DataW H} {ps : List MemPlace}
    (ht : P.underlying t = some (.array n e)) (hk : flatKinds P 8 t = some (List.replicate n k)) (hv : Value.okWide P w r b0 t v) (h : DataW.Trod enc P w base spare held t v d ps) :
    ∃ zs : List Int, v = .agg (nums k zs).toArray ∧ zs.length = n ∧ ∀ z ∈ zs, (Lit.int k z).wf = true := by
  obtain ⟨cs, rfl, _⟩ := okWide_array' ht hv
  obtain ⟨fuel, hf⟩ := h
  obtain ⟨zs, h1, h2, h3⟩ := (flat_trod 8 t _ hk fuel _ _ hf).all
  refine ⟨zs, ?_, h1, h3⟩
  have : cs.toList = nums k zs := h2
  rw [← this]

/-- A row that is read: cell j of what A leads to is cs[j]. -/
def RdRow (w : World) (A : Option Addr) (cs : List Value) : Prop := ∀ (j : Nat) (u : Value), cs[j]? = some u → ∃ ad, A = some ad ∧ w.cell? (ad.add j) = some u

theorem RdRow.below {w w1 : World} {A : Option Addr} {cs : List Value} (h : RdRow w A cs) (hb : Below w.heap.size w w1) : RdRow w1 A cs := fun j u hj => by
  obtain ⟨ad, e, hc⟩ := h j u hj
  exact ⟨ad, e, (hb.cell (World.block_lt_of_cell? w _ hc)).trans hc⟩

theorem flatten_get {α : Type} {sz : Nat} : ∀ {es : List (List α)}, (∀ c ∈ es, c.length = sz) → ∀ i, i < es.length → ∀ j, j < sz → es.flatten[i * sz + j]? = (es[i]?.getD [])[j]?
  | [], _, i, hi, _, _ => absurd hi (by simp)
  | c :: es, h, 0, _, j, hj => by
    have := h c (by simp)
    simp [List.getElem?_append_left (show j < c.length by omega)]
  | c :: es, h, i + 1, hi, j, hj => by
    have hc := h c (by simp)
    have ih := flatten_get (es := es) (fun c hc => h c (by simp [hc])) i (by simpa using hi) j hj
    rw [List.flatten_cons, List.getElem?_append_right (by rw [hc, Nat.succ_mul]; omega), hc]
    rw [show (i + 1) * sz + j - sz = i * sz + j by rw [Nat.succ_mul]; omega, ih]
    simp

theorem flatten_len {α : Type} {sz : Nat} : ∀ {es : List (List α)}, (∀ c ∈ es, c.length = sz) → es.flatten.length = es.length * sz
  | [], _ => by simp
  | c :: es, h => by
    rw [List.flatten_cons, List.length_append, flatten_len (fun c hc => h c (by simp [hc])), h c (by simp), List.length_cons, Nat.succ_mul, Nat.add_comm]

/-- An argument that is a slice of flat elements. -/
theorem open_flat_slice {H : Type} {enc : TypeId × Value → H} {P : Program} {w : World} {base b0 : Nat} {spare : Nat → Bool} {held : Bool} {r : Reach} {t e : TypeId} {v : Value} {d : DataW H} {ps : List MemPlace} {ks : List IntKind} {ts : List TypeId} {ds : List (DataW H)} {q B : Nat}
    (ht : P.underlying t = some (.slice e)) (hk : flatKinds P 8 e = some ks) (hce : P.cellsOf e = ks.length) (hv : Value.okWide P w r b0 t v) (h : DataW.Trod enc P w base spare held t v d ps)
    (hsz : (DataW.weightsEach P ts ds).all (· ≤ reachBytes) = true) (htj : ts[q]? = some t) (hdj : ds[q]? = some d) (hB : P.bytesOf e = B) :
    ∃ (A : Option Addr) (cap : Nat) (es : List (List Value)), v = .slice A es.length cap ∧ (∀ c ∈ es, IntCells ks c) ∧ RdRow w A es.flatten ∧ es.length * B ≤ 140737488351232 ∧ es.length ≤ maxLen ∧ (∀ ad, A = some ad → ad.block < w.heap.size ∨ es.flatten = []) := by
  obtain ⟨A, len, cap, rfl⟩ := okWide_slice ht hv
  obtain ⟨fuel, hf⟩ := h
  rcases Go.Deep.open_slice ht hf with ⟨h1, _⟩ | ⟨a, len', cap', m, n, D, Pl, h1, _, hl, hm, hmm, hx, hel⟩
  · simp only [Value.cells, List.cons.injEq, Value.slice.injEq, and_true] at h1
    obtain ⟨rfl, rfl, rfl⟩ := h1
    exact ⟨none, 0, [], rfl, by simp, fun j u hj => by simp at hj, by simp, by simp, fun _ _ => .inr rfl⟩
  · simp only [Value.cells, List.cons.injEq, Value.slice.injEq, and_true] at h1
    obtain ⟨rfl, rfl, rfl⟩ := h1
    have hlm : len ≤ m := by rw [hmm]; split <;> omega
    have hex : ∀ i, i < len → ∃ cs' : List Value, IntCells ks cs' ∧ ∀ j, j < ks.length → w.cell? ((a.add (i * ks.length)).add j) = cs'[j]? := fun i hi => by
      obtain ⟨cs', h2, h3⟩ := hel i (by omega)
      rw [hce] at h2
      obtain ⟨_, h4, h5⟩ := World.cells?_some h2
      exact ⟨cs', flat_trod 8 e ks hk _ _ _ h3, h5⟩
    obtain ⟨E, hE⟩ := Go.Deep.choose_lt hex
    have hlen : ((List.range len).map E).length = len := by simp
    have hall : ∀ c ∈ (List.range len).map E, IntCells ks c := by
      intro c hc
      obtain ⟨i, hi, rfl⟩ := List.mem_map.1 hc
      exact (hE i (List.mem_range.1 hi)).1
    have hall' : ∀ c ∈ (List.range len).map E, c.length = ks.length := fun c hc => (hall c hc).length
    have hrd : RdRow w (some a) ((List.range len).map E).flatten := by
      intro j u hj
      refine ⟨a, rfl, ?_⟩
      have hjl := (List.getElem?_eq_some_iff.1 hj).1
      rw [flatten_len hall', hlen] at hjl
      have hk0 : 0 < ks.length := by
        rcases Nat.eq_zero_or_pos ks.length with h0 | h0
        · rw [h0] at hjl; omega
        · exact h0
      have hi : j / ks.length < len := by rw [Nat.div_lt_iff_lt_mul hk0]; exact hjl
      have hr : j % ks.length < ks.length := Nat.mod_lt _ hk0
      have hdm : j / ks.length * ks.length + j % ks.length = j := by rw [Nat.mul_comm]; exact Nat.div_add_mod j _
      have h6 := flatten_get hall' (j / ks.length) (by rw [hlen]; exact hi) (j % ks.length) hr
      rw [hdm, hj] at h6
      have h7 := (hE _ hi).2 _ hr
      rw [Go.Deep.add_add, hdm] at h7
      rw [h7, h6]
      simp [hi]
    refine ⟨some a, cap, (List.range len).map E, by rw [hlen], hall, hrd, ?_, by rw [hlen]; omega, ?_⟩
    · rw [hlen]
      simp only [Prod.mk.injEq] at hx
      obtain ⟨hd, _⟩ := hx
      subst hd
      have z := sized_slice hsz htj hdj ht
      rw [hB] at z
      simp only [List.length_map, List.length_range] at z
      refine Nat.le_trans (Nat.mul_le_mul_right _ (show len ≤ len + (m - len) by omega)) (Nat.le_trans z ?_)
      decide
    · intro ad had
      cases had
      by_cases he : ((List.range len).map E).flatten = []
      · exact .inr he
      · left
        obtain ⟨u, tl, hu⟩ := List.exists_cons_of_ne_nil he
        obtain ⟨ad', h8, h9⟩ := hrd 0 u (by rw [hu]; rfl)
        cases h8
        have := World.block_lt_of_cell? w _ h9
        simpa [Addr.add] using this
end Go.Proofs.Ytepdgbgolopejaa
