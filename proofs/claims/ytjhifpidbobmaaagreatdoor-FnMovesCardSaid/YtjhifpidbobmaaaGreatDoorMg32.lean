/- Texts laid together: MvPure, MvSpec. -/
import Derived.Test.YtjhifpidbobmaaaGreatDoorMg31
import Derived.Test.YtjhifpidbobmaaaGreatDoorMg15
/- Moves read from their text: plain lists. -/
namespace Go.Proofs.YtjhifpidbobmaaaGreatDoor
open Go.RowKit
set_option linter.unusedVariables false
set_option linter.unusedSimpArgs false

abbrev Mv := Int × Int × Int
def mvX (m : Mv) : List UInt8 := mvT m.1 m.2.1 m.2.2
def okX (m : Mv) : Bool := okMove m.1 m.2.1 m.2.2
/-- The move with a word: the reference's way. -/
def parseM (w : List UInt8) : Option Mv := match splitL 58 w with
  | [p, q] => match splitL 62 p with
    | [x, y] => if okNum x = true ∧ okNum y = true ∧ okNum q = true ∧ valD x ≤ 4 ∧ valD y ≤ 4 ∧ valD q ≤ 5000 ∧ okMove (valD x) (valD y) (valD q) = true then some ((valD x : Int), (valD y : Int), (valD q : Int)) else none
    | _ => none
  | _ => none
theorem splitL_pair {b : UInt8} {t p q : List UInt8} (h : splitL b t = [p, q]) : t = p ++ b :: q := by
  have e := (splitS_parts (by_ := b) t).eq
  rw [splitL] at h
  obtain ⟨h1, h2⟩ : (splitS b t).1 = [p] ∧ (splitS b t).2 = q := by
    generalize (splitS b t).1 = d at h
    generalize (splitS b t).2 = r at h
    match d, h with
    | [x], h => simp only [List.cons_append, List.nil_append, List.cons.injEq, and_true] at h; exact ⟨by rw [h.1], h.2⟩
    | [], h => simp at h
    | _ :: _ :: d, h => simp at h
  rw [h1, h2] at e
  rw [e]
  simp [joinD]
theorem parse_word (m : Mv) : splitL 58 (mvX m) = [Lib.decDigits m.1.toNat ++ 62 :: Lib.decDigits m.2.1.toNat, Lib.decDigits m.2.2.toNat] := by
  have e : mvX m = (Lib.decDigits m.1.toNat ++ 62 :: Lib.decDigits m.2.1.toNat) ++ 58 :: Lib.decDigits m.2.2.toNat := by simp [mvX, mvT]
  have hn : (58 : UInt8) ∉ Lib.decDigits m.1.toNat ++ 62 :: Lib.decDigits m.2.1.toNat := fun hm => by
    rcases List.mem_append.1 hm with hm | hm
    · exact dec_no2 (b := 58) (by decide) _ hm
    · rcases List.mem_cons.1 hm with hm | hm
      · exact absurd hm (by decide)
      · exact dec_no2 (b := 58) (by decide) _ hm
  rw [e, splitL_cons hn, splitL_none (dec_no2 (b := 58) (by decide) _)]
theorem parse_of {m : Mv} (h : okX m = true) : parseM (mvX m) = some m := by
  obtain ⟨a, b, g⟩ := m
  have hk : MvOk a b g := okMove_bd h
  have h1 := hk.a; have h2 := hk.b; have h3 := hk.g
  unfold parseM
  rw [parse_word]
  simp only
  rw [split_two (by decide)]
  simp only
  have v1 := (dec_facts a.toNat).2.1
  have v2 := (dec_facts b.toNat).2.1
  have v3 := (dec_facts g.toNat).2.1
  have e1 : ((a.toNat : Nat) : Int) = a := Int.toNat_of_nonneg h1.1
  have e2 : ((b.toNat : Nat) : Int) = b := Int.toNat_of_nonneg h2.1
  have e3 : ((g.toNat : Nat) : Int) = g := Int.toNat_of_nonneg (by omega)
  rw [v1, v2, v3, e1, e2, e3, if_pos ⟨dec_ok (by omega), dec_ok (by omega), dec_ok (by omega), by omega, by omega, by omega, h⟩]
theorem parse_some {w : List UInt8} {m : Mv} (h : parseM w = some m) : okX m = true ∧ w = mvX m := by
  unfold parseM at h
  split at h
  · rename_i p q hw
    split at h
    · rename_i x y hp
      split at h
      · rename_i hc
        obtain ⟨c1, c2, c3, c4, c5, c6, c7⟩ := hc
        injection h with h
        subst h
        refine ⟨c7, ?_⟩
        rw [splitL_pair hw, splitL_pair hp]
        conv => lhs; rw [(okNum_dec c1).1, (okNum_dec c2).1, (okNum_dec c3).1]
        simp [mvX, mvT]
      · cases h
    · cases h
  · cases h
theorem mapM_parse : ∀ {W : List (List UInt8)} {L : List Mv}, W.mapM parseM = some L → W = L.map mvX ∧ ∀ m ∈ L, okX m = true
  | [], L, h => by
    simp only [List.mapM_nil, Option.pure_def, Option.some.injEq] at h
    subst h
    simp
  | w :: W, L, h => by
    simp only [List.mapM_cons, Option.bind_eq_bind, Option.bind_eq_some_iff, Option.pure_def, Option.some.injEq] at h
    obtain ⟨m, h1, L', h2, rfl⟩ := h
    obtain ⟨e1, e2⟩ := mapM_parse h2
    obtain ⟨e3, e4⟩ := parse_some h1
    refine ⟨by rw [e1, e4]; rfl, fun z hz => ?_⟩
    rcases List.mem_cons.1 hz with rfl | hz
    · exact e3
    · exact e2 z hz
theorem mapM_of : ∀ {L : List Mv}, (∀ m ∈ L, okX m = true) → (L.map mvX).mapM parseM = some L
  | [], _ => rfl
  | m :: L, h => by
    rw [List.map_cons, List.mapM_cons, parse_of (h m (by simp)), mapM_of (fun z hz => h z (by simp [hz]))]
    rfl
theorem mapM_take {W : List (List UInt8)} {k : Nat} {L : List Mv} {m : Mv} (hk : k < W.length) (h : (W.take k).mapM parseM = some L) (hm : parseM W[k] = some m) : (W.take (k + 1)).mapM parseM = some (L ++ [m]) := by
  obtain ⟨e1, e2⟩ := mapM_parse h
  obtain ⟨e3, e4⟩ := parse_some hm
  rw [List.take_add_one, List.getElem?_eq_getElem hk, e1, e4]
  have : L.map mvX ++ (some (mvX m)).toList = (L ++ [m]).map mvX := by simp
  rw [this]
  refine mapM_of fun z hz => ?_
  rcases List.mem_append.1 hz with hz | hz
  · exact e2 z hz
  · rw [List.mem_singleton.1 hz]; exact e3
theorem mapM_len {W : List (List UInt8)} {L : List Mv} (h : W.mapM parseM = some L) : L.length = W.length := by
  have := congrArg List.length (mapM_parse h).1
  simpa using this.symm
theorem mapM_no {W : List (List UInt8)} {k : Nat} (hk : k < W.length) (hm : parseM W[k] = none) : W.mapM parseM = none := by
  cases e : W.mapM parseM with
  | none => rfl
  | some L =>
    obtain ⟨e1, e2⟩ := mapM_parse e
    subst e1
    have hk' : k < L.length := by simpa using hk
    rw [List.getElem_map, parse_of (e2 _ (List.getElem_mem hk'))] at hm
    cases hm
/-- The moves with a text. -/
def rdM (t : List UInt8) : Option (List Mv) := if t = [] then some [] else if 60 < (splitL 32 t).length then none else (splitL 32 t).mapM parseM
def rdML (t : List UInt8) : List Mv := match rdM t with | some L => L | none => []
def rdMK (t : List UInt8) : Int := match rdM t with | some _ => 0 | none => 5
theorem rdM_none {t : List UInt8} (h : rdM t = none) : rdML t = [] ∧ rdMK t = 5 := by simp [rdML, rdMK, h]
theorem rdM_some {t : List UInt8} {L : List Mv} (h : rdM t = some L) : rdML t = L ∧ rdMK t = 0 := by simp [rdML, rdMK, h]
theorem rdM_nil : rdM [] = some [] := rfl
theorem rdM_long {t : List UInt8} (h0 : t ≠ []) (h : 60 < (splitL 32 t).length) : rdM t = none := by rw [rdM, if_neg h0, if_pos h]
theorem rdM_map {t : List UInt8} (h0 : t ≠ []) (h : ¬ 60 < (splitL 32 t).length) : rdM t = (splitL 32 t).mapM parseM := by rw [rdM, if_neg h0, if_neg h]
theorem rdML_le (t : List UInt8) : (rdML t).length ≤ 60 := by
  cases h : rdM t with
  | none => rw [(rdM_none h).1]; simp
  | some L =>
    rw [(rdM_some h).1]
    unfold rdM at h
    split at h
    · injection h with h; subst h; simp
    · split at h
      · cases h
      · have := mapM_len h; omega
/-! ### The program's way -/
theorem joinD_last (b : UInt8) : ∀ (d : List (List UInt8)) (r : List UInt8), joinD b d ++ r = Lib.join (d ++ [r]) [b]
  | [], r => by simp [joinD, Lib.join_one]
  | [x], r => by simp [joinD, Lib.join, List.intercalate]
  | x :: y :: d, r => by
    have ih := joinD_last b (y :: d) r
    have e : Lib.join (x :: y :: d ++ [r]) [b] = x ++ [b] ++ Lib.join (y :: d ++ [r]) [b] := by simp [Lib.join, List.intercalate]
    rw [e, ← ih]
    simp [joinD]
theorem join_split (b : UInt8) (t : List UInt8) : Lib.join (splitL b t) [b] = t := by
  rw [splitL, ← joinD_last]
  exact (splitS_parts (by_ := b) t).eq.symm
theorem mvX_no32 (m : Mv) : (32 : UInt8) ∉ mvX m := fun hm => by
  simp only [mvX, mvT, List.mem_append, List.mem_singleton] at hm
  rcases hm with (((hm | hm) | hm) | hm) | hm
  · exact dec_no2 (b := 32) (by decide) _ hm
  · exact absurd hm (by decide)
  · exact dec_no2 (b := 32) (by decide) _ hm
  · exact absurd hm (by decide)
  · exact dec_no2 (b := 32) (by decide) _ hm
theorem split_moves : ∀ (L : List Mv), L ≠ [] → splitL 32 (Lib.join (L.map mvX) [32]) = L.map mvX
  | [], h => (h rfl).elim
  | [m], _ => by rw [List.map_cons, List.map_nil, Lib.join_one, splitL_none (mvX_no32 m)]
  | m :: n :: L, _ => by
    have ih := split_moves (n :: L) (by simp)
    have e : Lib.join ((m :: n :: L).map mvX) [32] = mvX m ++ 32 :: Lib.join ((n :: L).map mvX) [32] := by simp [Lib.join, List.intercalate]
    rw [e, splitL_cons (mvX_no32 m), ih]
    rfl
/-- The text of a list of moves. -/
def txtX (L : List Mv) : List UInt8 := Lib.join (L.map mvX) [32]
theorem rdM_of {t : List UInt8} {L : List Mv} (h0 : t ≠ []) (hne : L ≠ []) (hl : L.length ≤ 60) (hk : ∀ m ∈ L, okX m = true) (h : txtX L = t) : rdM t = some L := by
  have e : splitL 32 t = L.map mvX := by rw [← h]; exact split_moves L hne
  rw [rdM_map h0 (by rw [e, List.length_map]; omega), e, mapM_of hk]
theorem rdM_back {t : List UInt8} {L : List Mv} (h0 : t ≠ []) (h : rdM t = some L) : splitL 32 t = L.map mvX ∧ L.length ≤ 60 ∧ (∀ m ∈ L, okX m = true) ∧ txtX L = t := by
  unfold rdM at h
  rw [if_neg h0] at h
  split at h
  · cases h
  · obtain ⟨e1, e2⟩ := mapM_parse h
    refine ⟨e1, by have := mapM_len h; omega, e2, ?_⟩
    rw [txtX, ← e1]
    exact join_split 32 t
/-- Two rows of different things: the one is no other. -/
theorem own_differ2 {w : World} {b b' e e' s s' n n' : Nat} {v u : Value} {xs ys : List Value} (h : w.ownsRow b e s v n xs) (h' : w.ownsRow b' e' s' u n' ys) (he : e ≠ e') : v.ownBlock = none ∨ v.ownBlock ≠ u.ownBlock := by
  rcases h.2 with ⟨rfl, _⟩ | ⟨g, c, cur, rfl, _, hg, _⟩
  · exact .inl rfl
  · rcases h'.2 with ⟨rfl, _⟩ | ⟨g', c', cur', rfl, _, hg', _⟩
    · exact .inr (by simp [Value.ownBlock])
    · refine .inr fun hh => ?_
      simp only [Value.ownBlock, Option.some.injEq] at hh
      subst hh
      rw [hg] at hg'
      simp only [Option.some.injEq, Obj.cells.injEq] at hg'
      exact he hg'.2.1
theorem row_grown2 {w w1 : World} {b e s n b' e' s' n' : Nat} {v u : Value} {xs ys : List Value} (h : w.ownsRow b e s v n xs) (h' : w.ownsRow b' e' s' u n' ys) (he : e ≠ e') (hg : w.grownBy w1 u.ownBlock) : w1.ownsRow b e s v n xs := h.kept hg (own_differ2 h h' he)
end Go.Proofs.YtjhifpidbobmaaaGreatDoor
/- Moves read from their text: the reference's function. -/
namespace Go.Proofs.YtjhifpidbobmaaaGreatDoor
open Go.RowKit
set_option linter.unusedVariables false
set_option linter.unusedSimpArgs false
set_option maxRecDepth 100000

theorem own_some2 {w : World} {base : Nat} {e : TypeId} {size n : Nat} {v : Value} {xs : List Value} (h : w.ownsRow base e size v n xs) (hn : 0 < n) : ∃ g c, v = .slice (some ⟨g, 0, none⟩) n c := by
  rcases h.2 with ⟨_, h0⟩ | ⟨g, c, cur, h1, _⟩
  · omega
  · exact ⟨g, c, h1⟩
theorem splitL_pos (b : UInt8) (t : List UInt8) : 0 < (splitL b t).length := by rw [splitL]; simp
theorem parse_no1 {w : List UInt8} (h : (splitL 58 w).length ≠ 2) : parseM w = none := by
  unfold parseM
  split
  · rename_i p q e; rw [e] at h; exact absurd rfl h
  · rfl
theorem parse_no2 {w p q : List UInt8} (hw : splitL 58 w = [p, q]) (h : (splitL 62 p).length ≠ 2) : parseM w = none := by
  unfold parseM
  rw [hw]
  simp only
  split
  · rename_i x y e; rw [e] at h; exact absurd rfl h
  · rfl
theorem parse_no3 {w p q x y : List UInt8} (hw : splitL 58 w = [p, q]) (hp : splitL 62 p = [x, y]) (h : ¬ (okNum x = true ∧ okNum y = true ∧ okNum q = true ∧ valD x ≤ 4 ∧ valD y ≤ 4 ∧ valD q ≤ 5000 ∧ okMove (valD x) (valD y) (valD q) = true)) : parseM w = none := by
  unfold parseM
  rw [hw]
  simp only
  rw [hp]
  simp only
  rw [if_neg h]
theorem parse_yes {w p q x y : List UInt8} (hw : splitL 58 w = [p, q]) (hp : splitL 62 p = [x, y]) (h : okNum x = true ∧ okNum y = true ∧ okNum q = true ∧ valD x ≤ 4 ∧ valD y ≤ 4 ∧ valD q ≤ 5000 ∧ okMove (valD x) (valD y) (valD q) = true) : parseM w = some ((valD x : Int), (valD y : Int), (valD q : Int)) := by
  unfold parseM
  rw [hw]
  simp only
  rw [hp]
  simp only
  rw [if_pos h]
theorem pair_of {l : List (List UInt8)} (h : l.length = 2) : ∃ p q, l = [p, q] := by
  match l, h with
  | [p, q], _ => exact ⟨p, q, rfl⟩
theorem pair_lens {b : UInt8} {t p q : List UInt8} (h : splitL b t = [p, q]) : p.length ≤ t.length ∧ q.length ≤ t.length := ⟨splitL_lens p (by rw [h]; simp), splitL_lens q (by rw [h]; simp)⟩
theorem oneC3 (a b g : Int) : ([.int .i8 a, .int .i8 b, .int .i16 g] : List Value).all (·.oneCell') = true := by simp [Value.oneCell']
/-- What a call ends with. -/
abbrev MvEnd (t : List UInt8) (w : World) (e : Ending) (w' : World) : Prop := ∃ v, e = .returned (.tuple #[v, .int .i64 (rdMK t)]) ∧ w'.ownsRow w.heap.size 46 3 v (rdML t).length (mvRow (rdML t)) ∧ Below w.heap.size w w'
theorem mvEnd_new {t : List UInt8} {w w' : World} (h : rdM t = none) (hb : Below w.heap.size w w') : MvEnd t w (.returned (.tuple #[.slice (some ⟨w'.heap.size, 0, none⟩) 0 0, .int .i64 5])) (w'.alloc (.cells #[] 46 (0, 0))) := by
  obtain ⟨h1, h2⟩ := rdM_none h
  unfold MvEnd
  rw [h1, h2]
  exact ⟨_, rfl, own_empty (heap_alloc_new w' _) hb.size, below_alloc hb _⟩
theorem mvEnd_own {t : List UInt8} {w w' : World} {v : Value} (h : rdM t = none) (ho : w'.ownsRow w.heap.size 46 3 v 0 []) (hb : Below w.heap.size w w') : MvEnd t w (.returned (.tuple #[v, .int .i64 5])) w' := by
  obtain ⟨h1, h2⟩ := rdM_none h
  unfold MvEnd
  rw [h1, h2]
  exact ⟨_, rfl, ho, hb⟩
theorem mvEnd_some {t : List UInt8} {w w' : World} {v : Value} {L : List Mv} {n : Nat} (h : rdM t = some L) (hn : n = L.length) (ho : w'.ownsRow w.heap.size 46 3 v n (mvRow L)) (hb : Below w.heap.size w w') : MvEnd t w (.returned (.tuple #[v, .int .i64 0])) w' := by
  obtain ⟨h1, h2⟩ := rdM_some h
  unfold MvEnd
  rw [h1, h2]
  subst hn
  exact ⟨_, rfl, ho, hb⟩
end Go.Proofs.YtjhifpidbobmaaaGreatDoor
