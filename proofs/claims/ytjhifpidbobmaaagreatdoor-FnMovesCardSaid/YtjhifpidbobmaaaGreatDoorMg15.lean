/- Texts laid together: MergeSpec, MovLaw. -/
import Derived.Test.YtjhifpidbobmaaaGreatDoorMg12
import Derived.Test.YtjhifpidbobmaaaGreatDoorMg07
import Derived.Test.YtjhifpidbobmaaaGreatDoorMg13
import Derived.Test.YtjhifpidbobmaaaGreatDoorMg14
/- Moves taken together: the plain part, and the reference's walk. -/
namespace Go.Proofs.YtjhifpidbobmaaaGreatDoor
open Go.RowKit
set_option linter.unusedVariables false
set_option linter.unusedSimpArgs false
set_option maxRecDepth 100000

/-- The cells of moves, side by side. -/
def mvRow (L : List (Int × Int × Int)) : List Value := (L.map fun z => [Value.int .i8 z.1, Value.int .i8 z.2.1, Value.int .i16 z.2.2]).flatten
theorem mvRow_snoc (L : List (Int × Int × Int)) (a b x : Int) : mvRow (L ++ [(a, b, x)]) = mvRow L ++ [.int .i8 a, .int .i8 b, .int .i16 x] := by
  simp [mvRow]
theorem mvRow_len (L : List (Int × Int × Int)) : (mvRow L).length = L.length * 3 := by
  induction L with
  | nil => rfl
  | cons z L ih => simp only [mvRow, List.map_cons, List.flatten_cons, List.length_append, List.length_cons, List.length_nil] at ih ⊢; omega
def sumAB (s t g : Nat → Int) (a b : Int) : Nat → Int
  | 0 => 0
  | k + 1 => if s k = a ∧ t k = b then sumAB s t g a b k + g k else sumAB s t g a b k
theorem sumAB_bd {s t g : Nat → Int} {n : Nat} (h : ∀ j, j < n → 1 ≤ g j ∧ g j ≤ 5000) (a b : Int) : ∀ k, k ≤ n → 0 ≤ sumAB s t g a b k ∧ sumAB s t g a b k ≤ 5000 * k
  | 0, _ => by simp [sumAB]
  | k + 1, hk => by
    have ih := sumAB_bd (s := s) (t := t) h a b k (by omega)
    have := h k (by omega)
    unfold sumAB
    split <;> constructor <;> omega
/-- The moves of the first p pairs of places. -/
def mrgL (s t g : Nat → Int) (n : Nat) : Nat → List (Int × Int × Int)
  | 0 => []
  | p + 1 => if 0 < sumAB s t g ((p / 5 : Nat) : Int) ((p % 5 : Nat) : Int) n then mrgL s t g n p ++ [(((p / 5 : Nat) : Int), ((p % 5 : Nat) : Int), sumAB s t g ((p / 5 : Nat) : Int) ((p % 5 : Nat) : Int) n)] else mrgL s t g n p
theorem mrgL_len (s t g : Nat → Int) (n : Nat) : ∀ p, (mrgL s t g n p).length ≤ p
  | 0 => Nat.le_refl _
  | p + 1 => by
    have := mrgL_len s t g n p
    unfold mrgL
    split
    · rw [List.length_append, List.length_singleton]; omega
    · omega
def mrgOk (s t g : Nat → Int) (n p : Nat) : Bool := allB p fun q => decide (sumAB s t g ((q / 5 : Nat) : Int) ((q % 5 : Nat) : Int) n ≤ 5000)
def mergeF (n : Nat) (s t g : Nat → Int) : List (Int × Int × Int) × Int :=
  if (allB n (fun j => okMove (s j) (t j) (g j)) && decide (n ≤ 60)) = true then (if mrgOk s t g n 25 = true then (mrgL s t g n 25, 0) else ([], 3)) else ([], 1)
theorem mergeF_le (n : Nat) (s t g : Nat → Int) : (mergeF n s t g).1.length ≤ 1048576 := by
  unfold mergeF
  split
  · split
    · have := mrgL_len s t g n 25; show (mrgL s t g n 25).length ≤ _; omega
    · simp
  · simp
theorem okMove_all' {s t g : Int} (h : okMove s t g = true) : (0 ≤ s ∧ s < 5) ∧ (0 ≤ t ∧ t < 5) ∧ 1 ≤ g ∧ g ≤ 5000 := by
  simp [okMove, mayMove, inB] at h
  omega

set_option maxHeartbeats 4000000 in
theorem c_sMergeMoves (A : Option Addr) (n c : Nat) (s t g : Nat → Int) (w : World) (h : MovesAt w A n s t g) (hn : n ≤ 1048576) (hg : ∀ j, j < n → (-32768 ≤ g j ∧ g j ≤ 32767) ∧ (-128 ≤ s j ∧ s j ≤ 127) ∧ (-128 ≤ t j ∧ t j ≤ 127)) :
    Calls Tryz.prog 21 #[.slice A n c] w fun e w' => ∃ v, e = .returned (.tuple #[v, .int .i64 (mergeF n s t g).2]) ∧ w'.ownsRow w.heap.size 46 3 v (mergeF n s t g).1.length (mvRow (mergeF n s t g).1) ∧ Below w.heap.size w w' := by
  have HB0 : Hid (Below w.heap.size w (w.alloc (.cells #[] 46 (0, 0)))) := below_alloc (Below.refl _ _) _
  have HE := Lib.hid (own_empty (base := w.heap.size) (e := 46) (size := 3) (heap_alloc_new w (.cells #[] 46 (0, 0))) (Nat.le_refl _))
  have H0 := Lib.hid h
  have H := Lib.hid (h.below HB0.out)
  have cv := c_l07Moves A n c s t g _ H.out hn hg
  cases hm : (allB n (fun j => okMove (s j) (t j) (g j)) && decide (n ≤ 60))
  · have E : Hid (mergeF n s t g = ([], 1)) := by rw [Hid, mergeF, hm]; rfl
    rw [hm] at cv
    have CV := Lib.hid cv
    clear cv h hg hm
    go_enter Tryz.func21, Tryz.ntmps21
    go_wp2_with (go_at_call 36; ((with_reducible refine CV.out.mono ?_); rintro e w1 ⟨rfl, hb⟩))
    exact bodyPost_ret (v := .tuple #[.slice (some ⟨w.heap.size, 0, none⟩) 0 0, .int .i64 1]) (by simp [results, Tryz.results21, go_sem]) rfl ⟨_, by rw [E.out], by rw [E.out]; exact own_below HE.out hb, below_then HB0.out hb⟩
  · have hok2 : allB n (fun j => okMove (s j) (t j) (g j)) = true ∧ decide (n ≤ 60) = true := by simpa only [Bool.and_eq_true] using hm
    have HOK : Hid (∀ j, j < n → 1 ≤ g j ∧ g j ≤ 5000) := fun j hj => (okMove_all' (allB_get hok2.1 j hj)).2.2
    have hn60 : n ≤ 60 := of_decide_eq_true hok2.2
    have E : Hid (mergeF n s t g = if mrgOk s t g n 25 = true then (mrgL s t g n 25, 0) else ([], 3)) := by rw [Hid, mergeF, hm]; rfl
    rw [hm] at cv
    have CV := Lib.hid cv
    clear cv h hg hm hok2
    go_enter Tryz.func21, Tryz.ntmps21
    go_wp2_with (go_at_call 36; ((with_reducible refine CV.out.mono ?_); rintro e w1 ⟨rfl, hb⟩; have HE := Lib.hid (own_below HE.out hb); have H := Lib.hid (H.out.below hb); have HB1 := Lib.hid (below_then HB0.out hb)))
    clear hb CV
    go_loopw [5, 4] (fun i v wr => ∃ a : Nat, a ≤ 5 ∧ i = .int .i8 a ∧ Hid (mrgOk s t g n (a * 5) = true) ∧ Hid (wr.ownsRow w.heap.size 46 3 v (mrgL s t g n (a * 5)).length (mvRow (mrgL s t g n (a * 5)))) ∧ Hid (MovesAt wr A n s t g) ∧ Hid (Below w.heap.size w wr)) (fun i _ _ => 5 - (intOf i).toNat)
    case atStart => exact ⟨0, by omega, rfl, rfl, HE, H, HB1⟩
    case round =>
      obtain ⟨a, ha, rfl, hK, hO, hM, hB⟩ := hrel
      by_cases hlt : a < 5
      · have d1 : decide ((a : Int) < 5) = true := by simp; omega
        have a0 : (0 : Int) ≤ (a : Int) := by omega
        have a1 : (a : Int) < 5 := by omega
        go_wp2
        go_loopw [6, 4] (fun i v wr => ∃ b : Nat, b ≤ 5 ∧ i = .int .i8 b ∧ Hid (mrgOk s t g n (a * 5 + b) = true) ∧ Hid (wr.ownsRow w.heap.size 46 3 v (mrgL s t g n (a * 5 + b)).length (mvRow (mrgL s t g n (a * 5 + b)))) ∧ Hid (MovesAt wr A n s t g) ∧ Hid (Below w.heap.size w wr)) (fun i _ _ => 5 - (intOf i).toNat)
        case atStart => exact ⟨0, by omega, rfl, hK, hO, hM, hB⟩
        case round =>
          obtain ⟨b, hb, rfl, hK, hO, hM, hB⟩ := hrel
          by_cases hlt2 : b < 5
          · have d2 : decide ((b : Int) < 5) = true := by simp; omega
            have b0 : (0 : Int) ≤ (b : Int) := by omega
            have b1 : (b : Int) < 5 := by omega
            go_wp2
            go_loop [8, 7] (fun i x => ∃ j : Nat, j ≤ n ∧ i = .int .i64 j ∧ x = .int .i64 (sumAB s t g a b j)) (fun i _ => n - (intOf i).toNat)
            case atStart => exact ⟨0, by omega, rfl, rfl⟩
            case round =>
              obtain ⟨j, hj, rfl, rfl⟩ := hrel
              obtain ⟨z0, z1⟩ := sumAB_bd HOK.out (s := s) (t := t) a b j hj
              have z2 : sumAB s t g a b j ≤ 300000 := by omega
              clear z1
              by_cases hlt3 : j < n
              · have d3 : decide ((j : Int) < (n : Int)) = true := by simp; omega
                have j0 : (0 : Int) ≤ (j : Int) := by omega
                have j1 : (j : Int) < (n : Int) := by omega
                obtain ⟨ad, rfl, c0, c1, c2⟩ := hM.out.at_ j hlt3
                obtain ⟨g0, g1⟩ := HOK.out j hlt3
                by_cases hs : s j = (a : Int)
                · rw [hs] at c0
                  by_cases ht : t j = (b : Int)
                  · rw [ht] at c1
                    have HS : Hid (sumAB s t g a b (j + 1) = sumAB s t g a b j + g j) := by rw [Hid, sumAB, if_pos ⟨hs, ht⟩]
                    go_wp2
                    go_round
                    case rel => exact ⟨j + 1, by omega, by go_num, by rw [HS.out]⟩
                    case measure => simp [intOf]; omega
                  · have de : (t j == (b : Int)) = false := by simp [ht]
                    have HS : Hid (sumAB s t g a b (j + 1) = sumAB s t g a b j) := by rw [Hid, sumAB, if_neg (fun h => ht h.2)]
                    go_wp2
                    go_round
                    case rel => exact ⟨j + 1, by omega, by go_num, by rw [HS.out]⟩
                    case measure => simp [intOf]; omega
                · have de : (s j == (a : Int)) = false := by simp [hs]
                  have HS : Hid (sumAB s t g a b (j + 1) = sumAB s t g a b j) := by rw [Hid, sumAB, if_neg (fun h => hs h.1)]
                  go_wp2
                  go_round
                  case rel => exact ⟨j + 1, by omega, by go_num, by rw [HS.out]⟩
                  case measure => simp [intOf]; omega
              · obtain rfl : j = n := by omega
                have d3 : decide ((j : Int) < (j : Int)) = false := by simp
                have ep : (a * 5 + b) / 5 = a := by omega
                have eq : (a * 5 + b) % 5 = b := by omega
                have HOKn : Hid (mrgOk s t g j (a * 5 + b + 1) = decide (sumAB s t g a b j ≤ 5000)) := by
                  have := hK.out
                  unfold mrgOk at this
                  rw [Hid, mrgOk, allB, this, ep, eq]; rfl
                have HL : Hid (mrgL s t g j (a * 5 + b + 1) = if 0 < sumAB s t g a b j then mrgL s t g j (a * 5 + b) ++ [((a : Int), (b : Int), sumAB s t g a b j)] else mrgL s t g j (a * 5 + b)) := by
                  rw [Hid, mrgL, ep, eq]
                have hlen := mrgL_len s t g j (a * 5 + b)
                have hz := hB.out.size
                generalize hx : sumAB s t g a b j = x at *
                by_cases hbig : 5000 < x
                · have dg : decide (5000 < x) = true := by simpa using hbig
                  have hno : mrgOk s t g j 25 = false := allB_stop (k := a * 5 + b) (by simp only [ep, eq, hx]; simp; omega) (by omega)
                  have E3 : Hid (mergeF j s t g = ([], 3)) := by rw [Hid, E.out, hno]; rfl
                  clear hno
                  go_wp2
                  exact bodyPost_ret (v := .tuple #[.slice (some ⟨wr.heap.size, 0, none⟩) 0 0, .int .i64 3]) (by simp [results, Tryz.results21, go_sem]) rfl ⟨_, by rw [E3.out], by rw [E3.out]; exact own_empty (heap_alloc_new wr _) hz, hB.out.alloc hz _⟩
                · have dg : decide (5000 < x) = false := by simpa using hbig
                  have HK2 : Hid (mrgOk s t g j (a * 5 + b + 1) = true) := by rw [Hid, HOKn.out]; simp; omega
                  by_cases hpos : 0 < x
                  · have dp : decide (0 < x) = true := by simpa using hpos
                    have HL2 : Hid (mrgL s t g j (a * 5 + b + 1) = mrgL s t g j (a * 5 + b) ++ [((a : Int), (b : Int), x)]) := by rw [Hid, HL.out, if_pos hpos]
                    go_wp2_with (at_builtin; refine ap1 rfl (.tmp 57) (.tmp 63) 24 46 rfl ((.agg #[.int .i8 0, .int .i8 0, .int .i16 0])) 3 4 w.heap.size Tryz.underlying24 (by kernel_rfl) rfl (by decide) u4 (mrgL s t g j (a * 5 + b)).length (mvRow (mrgL s t g j (a * 5 + b))) [.int .i8 (a : Int), .int .i8 (b : Int), .int .i16 x] rfl rfl (by simp) rfl rfl hO.out hz (by omega) (by omega) ?_; intro g3 d3 w5 hown hg3 hat; have hB5 := Lib.hid (below_grown hB.out hg3 hO.out (Nat.le_refl _) hz); have hO5 := Lib.hid hown; clear hown hat)
                    go_roundw
                    case rel => exact ⟨b + 1, by omega, by go_num, HK2, by rw [show a * 5 + (b + 1) = a * 5 + b + 1 by omega, HL2.out, List.length_append, mvRow_snoc]; exact hO5.out, H0.out.below hB5.out, hB5⟩
                    case measure => simp [intOf]; omega
                  · have dp : decide (0 < x) = false := by simpa using hpos
                    have HL2 : Hid (mrgL s t g j (a * 5 + b + 1) = mrgL s t g j (a * 5 + b)) := by rw [Hid, HL.out, if_neg hpos]
                    go_wp2
                    go_roundw
                    case rel => exact ⟨b + 1, by omega, by go_num, HK2, by rw [show a * 5 + (b + 1) = a * 5 + b + 1 by omega, HL2.out]; exact hO, hM, hB⟩
                    case measure => simp [intOf]; omega
          · obtain rfl : b = 5 := by omega
            have d2 : decide ((5 : Int) < 5) = false := by simp
            go_wp2
            go_roundw
            case rel => exact ⟨a + 1, by omega, by go_num, by rw [show (a + 1) * 5 = a * 5 + 5 by omega]; exact hK, by rw [show (a + 1) * 5 = a * 5 + 5 by omega]; exact hO, hM, hB⟩
            case measure => simp [intOf]; omega
      · obtain rfl : a = 5 := by omega
        have d1 : decide ((5 : Int) < 5) = false := by simp
        have E0 : Hid (mergeF n s t g = (mrgL s t g n 25, 0)) := by rw [Hid, E.out, if_pos hK.out]
        go_wp2
        exact bodyPost_ret (v := .tuple #[u4, .int .i64 0]) (by simp [results, Tryz.results21, go_sem]) rfl ⟨_, by rw [E0.out], by rw [E0.out]; exact hO.out, hB.out⟩
end Go.Proofs.YtjhifpidbobmaaaGreatDoor
/- The law on moves: plain lists. -/
namespace Go.Proofs.YtjhifpidbobmaaaGreatDoor
open Go.RowKit
set_option linter.unusedVariables false
set_option linter.unusedSimpArgs false

theorem allB_ofM {k : Nat} {p : Nat → Bool} (h : ∀ j, j < k → p j = true) : allB k p = true := by
  induction k with
  | zero => rfl
  | succ k ih => rw [allB, ih fun j hj => h j (by omega), h k (by omega)]; rfl
theorem gi_zero5 (i : Nat) : gi [0, 0, 0, 0, 0] i = 0 := by
  match i with
  | 0 => rfl
  | 1 => rfl
  | 2 => rfl
  | 3 => rfl
  | 4 => rfl
  | i + 5 => rfl
theorem gi_ext5 {p q : List Int} (hp : p.length = 5) (hq : q.length = 5) (h : ∀ i, i < 5 → gi p i = gi q i) : p = q := by
  apply List.ext_getElem (by rw [hp, hq])
  intro i h1 h2
  have := h i (by omega)
  simpa [gi, List.getD_eq_getElem?_getD, h1, h2] using this
/-- What one move adds to place i. -/
def dlt (i : Nat) (a b g : Int) : Int := (if (i : Int) = a then -g else 0) + (if (i : Int) = b then g else 0)
theorem dlt_zero (i : Nat) (a b : Int) : dlt i a b 0 = 0 := by unfold dlt; split <;> split <;> simp
theorem dlt_add (i : Nat) (a b x y : Int) : dlt i a b (x + y) = dlt i a b x + dlt i a b y := by unfold dlt; split <;> split <;> omega
theorem gi_step {p : List Int} (h : p.length = 5) {a b : Int} (g : Int) (ha : 0 ≤ a ∧ a < 5) (hb : 0 ≤ b ∧ b < 5) (i : Nat) : gi (stepP p a b g) i = gi p i + dlt i a b g := by
  have e : ∀ j, gi (p.set a.toNat (gi p a.toNat + -g)) j = if j = a.toNat then gi p a.toNat + -g else gi p j := fun j => gi_setP _ (by rw [h]; omega)
  unfold stepP addAtP
  rw [gi_setP _ (by rw [List.length_set, h]; omega), e, e]
  unfold dlt
  by_cases h1 : i = b.toNat
  · have h1' : (i : Int) = b := by omega
    rw [if_pos h1, if_pos h1']
    by_cases h2 : b.toNat = a.toNat
    · rw [if_pos h2, if_pos (show (i : Int) = a by omega), h1, h2]
      omega
    · rw [if_neg h2, if_neg (show ¬ (i : Int) = a by omega), h1]
      omega
  · rw [if_neg h1, if_neg (show ¬ (i : Int) = b by omega)]
    by_cases h2 : i = a.toNat
    · rw [if_pos h2, if_pos (show (i : Int) = a by omega), h2]
      omega
    · rw [if_neg h2, if_neg (show ¬ (i : Int) = a by omega)]
      omega
section
variable {s t g : Nat → Int} {n : Nat} (ok : ∀ j, j < n → okMove (s j) (t j) (g j) = true)
include ok
theorem netN_len {k : Nat} (hk : k ≤ n) : (netN s t g k).length = 5 := (netN_five ok k hk).len
theorem netN_gi {k : Nat} (hk : k < n) (i : Nat) : gi (netN s t g (k + 1)) i = gi (netN s t g k) i + dlt i (s k) (t k) (g k) := by
  obtain ⟨h1, h2, h3⟩ := okMove_all (ok k hk)
  rw [netN, gi_step (netN_len ok (Nat.le_of_lt hk)) _ h1 h2]
theorem atN_gi {D : List Int} (hD : D.length = 5) : ∀ k, k ≤ n → ∀ i, gi (atN D s t g k) i = gi D i + gi (netN s t g k) i
  | 0, _, i => by rw [atN, netN, gi_zero5]; omega
  | k + 1, hk, i => by
    obtain ⟨h1, h2, h3⟩ := okMove_all (ok k hk)
    rw [netN_gi ok hk, atN, gi_step (atN_len hD s t g k) _ h1 h2, atN_gi hD k (by omega)]
    omega
omit ok in
theorem lpart_gi {l p : List Int} (hl : l.length = 5) : ∀ m, m ≤ 5 → (lpart l p m).length = 5 ∧ ∀ i, gi (lpart l p m) i = if i < m then max (gi l i) (-(gi p i)) else gi l i
  | 0, _ => ⟨hl, fun i => by rw [if_neg (by omega)]; rfl⟩
  | m + 1, hm => by
    obtain ⟨h1, h2⟩ := lpart_gi (p := p) hl m (by omega)
    refine ⟨by rw [lpart, List.length_set, h1], fun i => ?_⟩
    rw [lpart, gi_setP _ (by rw [h1]; omega), h2, h2]
    by_cases e : i = m
    · subst e
      rw [if_pos rfl, if_neg (by omega), if_pos (by omega)]
    · rw [if_neg e]
      by_cases e2 : i < m
      · rw [if_pos e2, if_pos (by omega)]
      · rw [if_neg e2, if_neg (by omega)]
theorem least_gi (hn : n ≤ 60) {k : Nat} (hk : k < n) {i : Nat} (hi : i < 5) : gi (leastN s t g (k + 1)) i = max (gi (leastN s t g k) i) (-(gi (netN s t g (k + 1)) i)) := by
  rw [leastN, (lpart_gi (leastN_five hn ok k (by omega)).len 5 (Nat.le_refl _)).2, if_pos hi]
theorem least_spec (hn : n ≤ 60) {i : Nat} (hi : i < 5) : ∀ k, k ≤ n → (∀ j, j ≤ k → 0 ≤ gi (leastN s t g k) i + gi (netN s t g j) i) ∧ ∃ j, j ≤ k ∧ gi (leastN s t g k) i + gi (netN s t g j) i = 0
  | 0, _ => ⟨fun j hj => by obtain rfl : j = 0 := by omega
                            rw [leastN, netN, gi_zero5]; omega, 0, Nat.le_refl _, by rw [leastN, netN, gi_zero5]; omega⟩
  | k + 1, hk => by
    obtain ⟨h1, j0, h2, h3⟩ := least_spec hn hi k (by omega)
    have e := least_gi ok hn hk hi
    refine ⟨fun j hj => ?_, ?_⟩
    · by_cases c : j = k + 1
      · subst c; omega
      · have := h1 j (by omega); omega
    · by_cases c : -(gi (netN s t g (k + 1)) i) ≤ gi (leastN s t g k) i
      · exact ⟨j0, by omega, by omega⟩
      · exact ⟨k + 1, Nat.le_refl _, by omega⟩
/-- From the least start on, every place goes well. -/
theorem due_ok (hn : n ≤ 6) {k : Nat} (hk : k ≤ n) : okFive (atN (leastN s t g n) s t g k) = true := allB_ofM fun i hi => by
  have h1 := (least_spec ok (by omega) hi n (Nat.le_refl _)).1 k hk
  have h2 := (leastN_five (by omega) ok n (Nat.le_refl _)).bd i
  have h3 := (netN_five ok k hk).bd i
  have e := atN_gi ok (leastN_five (by omega) ok n (Nat.le_refl _)).len k hk i
  simp only [okP1, inB, Bool.and_eq_true, decide_eq_true_eq]
  omega
theorem due_good (hn : n ≤ 6) : ∀ k, k ≤ n → goodN (leastN s t g n) s t g k = k
  | 0, _ => rfl
  | k + 1, hk => by rw [goodN, if_pos ⟨due_good hn k (by omega), due_ok ok hn hk⟩]
theorem due_all (hn : n ≤ 6) : okAll (leastN s t g n) n s t g = true := by
  have h0 := due_ok ok hn (Nat.zero_le n)
  rw [atN] at h0
  rw [okAll, h0, allB_ofM ok, decide_eq_true (by omega)]; rfl
omit ok in
theorem good_get {p0 : List Int} : ∀ m, goodN p0 s t g m = m → ∀ k, 1 ≤ k → k ≤ m → okFive (atN p0 s t g k) = true
  | 0, _, k, h1, h2 => by omega
  | m + 1, h, k, h1, h2 => by
    rw [goodN] at h
    split at h
    · rename_i hc
      by_cases e : k = m + 1
      · subst e; exact hc.2
      · exact good_get m hc.1 k h1 (by omega)
    · have := goodN_le p0 s t g m; omega
/-- One less at a place that the start needs: some move goes wrong. -/
theorem less_wrong (hn : n ≤ 6) {i : Nat} (hi : i < 5) (hp : 0 < gi (leastN s t g n) i) :
    okAll ((leastN s t g n).set i (gi (leastN s t g n) i - 1)) n s t g = true ∧ goodN ((leastN s t g n).set i (gi (leastN s t g n) i - 1)) s t g n ≠ n := by
  have hF := leastN_five (by omega) ok n (Nat.le_refl _)
  have hl : ((leastN s t g n).set i (gi (leastN s t g n) i - 1)).length = 5 := by rw [List.length_set, hF.len]
  refine ⟨?_, fun hg => ?_⟩
  · have h0 : okFive ((leastN s t g n).set i (gi (leastN s t g n) i - 1)) = true := allB_ofM fun j hj => by
      have h1 := (least_spec ok (by omega) hj n (Nat.le_refl _)).1 0 (by omega)
      have h2 := hF.bd j
      have h3 := hF.bd i
      rw [netN, gi_zero5] at h1
      rw [gi_setP _ (by rw [hF.len]; exact hi)]
      simp only [okP1, inB, Bool.and_eq_true, decide_eq_true_eq]
      split <;> omega
    rw [okAll, h0, allB_ofM ok, decide_eq_true (by omega)]; rfl
  · obtain ⟨k, hk, e⟩ := (least_spec ok (by omega) hi n (Nat.le_refl _)).2
    have hk1 : 1 ≤ k := by
      rcases Nat.eq_zero_or_pos k with c | c
      · subst c; rw [netN, gi_zero5] at e; omega
      · exact c
    have h1 := good_get n hg k hk1 hk
    have h2 : okP1 (gi (atN ((leastN s t g n).set i (gi (leastN s t g n) i - 1)) s t g k) i) = true := allB_get h1 i hi
    rw [atN_gi ok hl k hk, gi_setP _ (by rw [hF.len]; exact hi), if_pos rfl] at h2
    simp only [okP1, inB, Bool.and_eq_true, decide_eq_true_eq] at h2
    omega
omit ok in
/-- The least of place i in the start and behind the first m moves. -/
def lowN (D : List Int) (s t g : Nat → Int) (i : Nat) : Nat → Int
  | 0 => gi D i
  | m + 1 => min (lowN D s t g i m) (gi (atN D s t g (m + 1)) i)
theorem low_zero (hn : n ≤ 6) {i : Nat} (hi : i < 5) : lowN (leastN s t g n) s t g i n = 0 := by
  have hF := leastN_five (by omega) ok n (Nat.le_refl _)
  obtain ⟨h1, k, hk, h2⟩ := least_spec ok (show n ≤ 60 by omega) hi n (Nat.le_refl _)
  have lo : ∀ m, m ≤ n → 0 ≤ lowN (leastN s t g n) s t g i m := by
    intro m
    induction m with
    | zero => intro _; have := h1 0 (by omega); rw [netN, gi_zero5] at this; rw [lowN]; omega
    | succ m ih => intro hm; have := ih (by omega); have := h1 (m + 1) hm; rw [lowN, atN_gi ok hF.len _ hm]; omega
  have hi2 : ∀ m, m ≤ n → k ≤ m → lowN (leastN s t g n) s t g i m ≤ 0 := by
    intro m
    induction m with
    | zero => intro _ h; obtain rfl : k = 0 := by omega
              rw [netN, gi_zero5] at h2; rw [lowN]; omega
    | succ m ih =>
      intro hm h
      rw [lowN, atN_gi ok hF.len _ hm]
      by_cases c : k = m + 1
      · subst c; omega
      · have := ih (by omega) (by omega); omega
  have := lo n (Nat.le_refl _)
  have := hi2 n (Nat.le_refl _) hk
  omega
omit ok in
theorem dlt_sum {a b : Int} (g : Int) (ha : 0 ≤ a ∧ a < 5) (hb : 0 ≤ b ∧ b < 5) : dlt 0 a b g + dlt 1 a b g + dlt 2 a b g + dlt 3 a b g + dlt 4 a b g = 0 := by
  obtain ⟨a0, a1⟩ := ha
  obtain ⟨b0, b1⟩ := hb
  rcases (show a = 0 ∨ a = 1 ∨ a = 2 ∨ a = 3 ∨ a = 4 by omega) with rfl | rfl | rfl | rfl | rfl <;>
  rcases (show b = 0 ∨ b = 1 ∨ b = 2 ∨ b = 3 ∨ b = 4 by omega) with rfl | rfl | rfl | rfl | rfl <;> simp [dlt] <;> omega
theorem net_sum : ∀ k, k ≤ n → gi (netN s t g k) 0 + gi (netN s t g k) 1 + gi (netN s t g k) 2 + gi (netN s t g k) 3 + gi (netN s t g k) 4 = 0
  | 0, _ => by rw [netN]; rfl
  | k + 1, hk => by
    obtain ⟨h1, h2, h3⟩ := okMove_all (ok k hk)
    have ih := net_sum k (by omega)
    have := dlt_sum (g k) h1 h2
    rw [netN_gi ok hk, netN_gi ok hk, netN_gi ok hk, netN_gi ok hk, netN_gi ok hk]
    omega
end
/-! ### Merged moves -/
def fS (L : List (Int × Int × Int)) (j : Nat) : Int := (L.getD j (0, 0, 0)).1
def fT (L : List (Int × Int × Int)) (j : Nat) : Int := (L.getD j (0, 0, 0)).2.1
def fG (L : List (Int × Int × Int)) (j : Nat) : Int := (L.getD j (0, 0, 0)).2.2
theorem f_get {L : List (Int × Int × Int)} {j : Nat} (hj : j < L.length) : fS L j = L[j].1 ∧ fT L j = L[j].2.1 ∧ fG L j = L[j].2.2 := by
  have e : L.getD j (0, 0, 0) = L[j] := by simp [List.getD_eq_getElem?_getD, hj]
  unfold fS fT fG
  rw [e]
  exact ⟨rfl, rfl, rfl⟩
theorem f_snoc {L : List (Int × Int × Int)} (x : Int × Int × Int) {j : Nat} (hj : j < L.length) : fS (L ++ [x]) j = fS L j ∧ fT (L ++ [x]) j = fT L j ∧ fG (L ++ [x]) j = fG L j := by
  have e : (L ++ [x]).getD j (0, 0, 0) = L.getD j (0, 0, 0) := by simp [List.getD_eq_getElem?_getD, List.getElem?_append, hj]
  unfold fS fT fG
  rw [e]
  exact ⟨rfl, rfl, rfl⟩
theorem f_last (L : List (Int × Int × Int)) (x : Int × Int × Int) : fS (L ++ [x]) L.length = x.1 ∧ fT (L ++ [x]) L.length = x.2.1 ∧ fG (L ++ [x]) L.length = x.2.2 := by
  have e : (L ++ [x]).getD L.length (0, 0, 0) = x := by simp [List.getD_eq_getElem?_getD]
  unfold fS fT fG
  rw [e]
  exact ⟨rfl, rfl, rfl⟩
theorem netN_congr {s t g s' t' g' : Nat → Int} : ∀ k, (∀ j, j < k → s j = s' j ∧ t j = t' j ∧ g j = g' j) → netN s t g k = netN s' t' g' k
  | 0, _ => rfl
  | k + 1, h => by
    obtain ⟨h1, h2, h3⟩ := h k (by omega)
    rw [netN, netN, netN_congr k (fun j hj => h j (by omega)), h1, h2, h3]
theorem ok_list {L : List (Int × Int × Int)} (h : ∀ x ∈ L, okMove x.1 x.2.1 x.2.2 = true) : ∀ j, j < L.length → okMove (fS L j) (fT L j) (fG L j) = true := fun j hj => by
  obtain ⟨e1, e2, e3⟩ := f_get hj
  rw [e1, e2, e3]
  exact h _ (List.getElem_mem hj)
section
variable {s t g : Nat → Int} {n : Nat}
theorem sumAB_pos {a b : Int} : ∀ k, 0 < sumAB s t g a b k → ∃ j, j < k ∧ s j = a ∧ t j = b
  | 0, h => by simp [sumAB] at h
  | k + 1, h => by
    rw [sumAB] at h
    split at h
    · rename_i hc; exact ⟨k, by omega, hc.1, hc.2⟩
    · obtain ⟨j, h1, h2⟩ := sumAB_pos k h
      exact ⟨j, by omega, h2⟩
/-- What is known of a merged move. -/
structure MrgOk (s t g : Nat → Int) (n p : Nat) (x : Int × Int × Int) : Prop where
  a : 0 ≤ x.1 ∧ x.1 < 5
  b : 0 ≤ x.2.1 ∧ x.2.1 < 5
  p : x.1 * 5 + x.2.1 < p
  v : x.2.2 = sumAB s t g x.1 x.2.1 n
  pos : 0 < x.2.2
theorem mrg_ok : ∀ p, p ≤ 25 → ∀ x ∈ mrgL s t g n p, MrgOk s t g n p x
  | 0, _, x, h => by simp [mrgL] at h
  | p + 1, hp, x, h => by
    have ih := mrg_ok p (by omega)
    rw [mrgL] at h
    split at h
    · rename_i hc
      rcases List.mem_append.1 h with h | h
      · have := ih x h
        exact ⟨this.a, this.b, by have := this.p; omega, this.v, this.pos⟩
      · simp only [List.mem_singleton] at h
        subst h
        exact ⟨by constructor <;> dsimp only <;> omega, by constructor <;> dsimp only <;> omega, by dsimp only; omega, rfl, hc⟩
    · have := ih x h
      exact ⟨this.a, this.b, by have := this.p; omega, this.v, this.pos⟩
theorem mrg_sorted : ∀ p, p ≤ 25 → (mrgL s t g n p).Pairwise (fun x y => x.1 * 5 + x.2.1 < y.1 * 5 + y.2.1)
  | 0, _ => List.Pairwise.nil
  | p + 1, hp => by
    have ih := mrg_sorted p (by omega)
    rw [mrgL]
    split
    · refine List.pairwise_append.2 ⟨ih, List.pairwise_singleton _ _, fun x hx y hy => ?_⟩
      simp only [List.mem_singleton] at hy
      subst hy
      have := (mrg_ok p (by omega) x hx).p
      dsimp only
      omega
    · exact ih
/-- Each is behind the one before it. -/
theorem mrg_next {p : Nat} (hp : p ≤ 25) {i : Nat} (h1 : 1 ≤ i) (hi : i < (mrgL s t g n p).length) :
    ¬ fS (mrgL s t g n p) i < fS (mrgL s t g n p) (i - 1) ∧ ¬ (fS (mrgL s t g n p) i = fS (mrgL s t g n p) (i - 1) ∧ fT (mrgL s t g n p) i ≤ fT (mrgL s t g n p) (i - 1)) := by
  obtain ⟨e1, e2, _⟩ := f_get hi
  obtain ⟨e3, e4, _⟩ := f_get (show i - 1 < (mrgL s t g n p).length by omega)
  have hs := List.pairwise_iff_getElem.1 (mrg_sorted (s := s) (t := t) (g := g) (n := n) p hp) (i - 1) i (by omega) hi (by omega)
  have o1 := mrg_ok p hp _ (List.getElem_mem hi)
  have o2 := mrg_ok p hp _ (List.getElem_mem (show i - 1 < (mrgL s t g n p).length by omega))
  have := o1.b; have := o2.b
  rw [e1, e2, e3, e4]
  omega
theorem sub_len {α : Type} [DecidableEq α] : ∀ (A B : List α), A.Nodup → (∀ x ∈ A, x ∈ B) → A.length ≤ B.length
  | [], _, _, _ => Nat.zero_le _
  | x :: A, B, hd, h => by
    have hx := h x (by simp)
    obtain ⟨h1, h2⟩ := List.nodup_cons.1 hd
    have ih := sub_len A (B.erase x) h2 (fun y hy => (List.mem_erase_of_ne (fun e => h1 (by rw [e] at hy; exact hy))).2 (h y (by simp [hy])))
    rw [List.length_erase_of_mem hx] at ih
    have : 0 < B.length := List.length_pos_of_mem hx
    simp only [List.length_cons]
    omega
/-- No more merged moves than moves. -/
theorem mrg_le {p : Nat} (hp : p ≤ 25) : (mrgL s t g n p).length ≤ n := by
  have h := sub_len ((mrgL s t g n p).map fun x => x.1 * 5 + x.2.1) ((List.range n).map fun j => s j * 5 + t j) ?_ ?_
  · simpa using h
  · refine List.Pairwise.map _ ?_ (mrg_sorted p hp)
    intro x y h e
    omega
  · intro z hz
    obtain ⟨x, hx, rfl⟩ := List.mem_map.1 hz
    have o := mrg_ok p hp x hx
    obtain ⟨j, hj, e1, e2⟩ := sumAB_pos n (by rw [← o.v]; exact o.pos)
    exact List.mem_map.2 ⟨j, List.mem_range.2 hj, by rw [e1, e2]⟩
/-- What the merged moves add to place i. -/
def mrgS (s t g : Nat → Int) (n i : Nat) : Nat → Int
  | 0 => 0
  | p + 1 => mrgS s t g n i p + dlt i ((p / 5 : Nat) : Int) ((p % 5 : Nat) : Int) (sumAB s t g ((p / 5 : Nat) : Int) ((p % 5 : Nat) : Int) n)
theorem mrgS_zero (i : Nat) : ∀ p, mrgS s t g 0 i p = 0
  | 0 => rfl
  | p + 1 => by rw [mrgS, mrgS_zero i p, sumAB, dlt_zero]; rfl
theorem mrgS_succ (i : Nat) (hs : 0 ≤ s n ∧ s n < 5) (ht : 0 ≤ t n ∧ t n < 5) : ∀ p, p ≤ 25 → mrgS s t g (n + 1) i p = mrgS s t g n i p + (if s n * 5 + t n < (p : Int) then dlt i (s n) (t n) (g n) else 0)
  | 0, _ => by rw [mrgS, mrgS, if_neg (by omega)]; rfl
  | p + 1, hp => by
    rw [mrgS, mrgS, mrgS_succ i hs ht p (by omega), sumAB]
    by_cases c : s n = ((p / 5 : Nat) : Int) ∧ t n = ((p % 5 : Nat) : Int)
    · rw [if_pos c, dlt_add, ← c.1, ← c.2, if_neg (by omega), if_pos (by omega)]
      omega
    · rw [if_neg c]
      by_cases c2 : s n * 5 + t n < (p : Int)
      · rw [if_pos c2, if_pos (by omega)]; omega
      · rw [if_neg c2, if_neg (by omega)]; omega
theorem mrgS_net (i : Nat) : ∀ m, (∀ j, j < m → okMove (s j) (t j) (g j) = true) → mrgS s t g m i 25 = gi (netN s t g m) i
  | 0, _ => by rw [mrgS_zero, netN, gi_zero5]
  | m + 1, ok => by
    obtain ⟨h1, h2, h3⟩ := okMove_all (ok m (by omega))
    rw [mrgS_succ i h1 h2 25 (Nat.le_refl _), mrgS_net i m (fun j hj => ok j (by omega)), if_pos (by omega), netN_gi ok (Nat.lt_succ_self m)]
/-- The merged moves, as a list on its own. -/
theorem mrg_moves (ok : ∀ j, j < n → okMove (s j) (t j) (g j) = true) (small : ∀ a b, sumAB s t g a b n ≤ 5000) : ∀ p, p ≤ 25 → ∀ x ∈ mrgL s t g n p, okMove x.1 x.2.1 x.2.2 = true := fun p hp x hx => by
  have o := mrg_ok p hp x hx
  obtain ⟨j, hj, e1, e2⟩ := sumAB_pos n (by rw [← o.v]; exact o.pos)
  have h := ok j hj
  have h2 := small x.1 x.2.1
  have h3 := o.pos
  rw [← o.v] at h2
  rw [e1, e2] at h
  simp only [okMove, inB, Bool.and_eq_true, decide_eq_true_eq] at h ⊢
  exact ⟨h.1, by omega, h2⟩
theorem mrg_net (ok : ∀ j, j < n → okMove (s j) (t j) (g j) = true) (small : ∀ a b, sumAB s t g a b n ≤ 5000) (pos : ∀ a b, 0 ≤ sumAB s t g a b n) (i : Nat) : ∀ p, p ≤ 25 → gi (netN (fS (mrgL s t g n p)) (fT (mrgL s t g n p)) (fG (mrgL s t g n p)) (mrgL s t g n p).length) i = mrgS s t g n i p
  | 0, _ => by rw [mrgL]; show gi (netN _ _ _ 0) i = 0; rw [netN, gi_zero5]
  | p + 1, hp => by
    have ih := mrg_net ok small pos i p (by omega)
    have hk := mrg_moves ok small (p + 1) hp
    rw [mrgL] at hk ⊢
    rw [mrgS]
    split at hk <;> rename_i hc
    · rw [if_pos hc]
      have hok := ok_list hk
      generalize mrgL s t g n p = L at *
      rw [List.length_append, List.length_singleton] at hok ⊢
      obtain ⟨e1, e2, e3⟩ := f_last L (((p / 5 : Nat) : Int), ((p % 5 : Nat) : Int), sumAB s t g ((p / 5 : Nat) : Int) ((p % 5 : Nat) : Int) n)
      rw [netN_gi hok (Nat.lt_succ_self _), e1, e2, e3, netN_congr L.length (fun j hj => f_snoc _ hj), ih]
    · rw [if_neg hc, ih]
      have : sumAB s t g ((p / 5 : Nat) : Int) ((p % 5 : Nat) : Int) n = 0 := by have := pos ((p / 5 : Nat) : Int) ((p % 5 : Nat) : Int); omega
      rw [this, dlt_zero]; omega
theorem mrg_same (ok : ∀ j, j < n → okMove (s j) (t j) (g j) = true) (small : ∀ a b, sumAB s t g a b n ≤ 5000) (pos : ∀ a b, 0 ≤ sumAB s t g a b n) : netN (fS (mrgL s t g n 25)) (fT (mrgL s t g n 25)) (fG (mrgL s t g n 25)) (mrgL s t g n 25).length = netN s t g n :=
  gi_ext5 (netN_len (ok_list (mrg_moves ok small 25 (Nat.le_refl _))) (Nat.le_refl _)) (netN_len ok (Nat.le_refl _)) fun i hi => by
    rw [mrg_net ok small pos i 25 (Nat.le_refl _), mrgS_net i n ok]
theorem sum_small (h : ∀ j, j < n → 1 ≤ g j ∧ g j ≤ 5000) (hn : n ≤ 6) (h40 : ∀ j, j < n → g j ≤ 40) (a b : Int) : ∀ k, k ≤ n → 0 ≤ sumAB s t g a b k ∧ sumAB s t g a b k ≤ 40 * (k : Int)
  | 0, _ => by simp [sumAB]
  | k + 1, hk => by
    have ih := sum_small h hn h40 a b k (by omega)
    have := h k (by omega); have := h40 k (by omega)
    rw [sumAB]
    split <;> omega
end
end Go.Proofs.YtjhifpidbobmaaaGreatDoor
