/- Texts laid together: AreI64, SharePure. -/
import Derived.Test.YtjhifpidbobmaaaGreatDoorMg09
import Derived.Test.YtjhifpidbobmaaaGreatDoorMg04
import Derived.Test.YtjhifpidbobmaaaGreatDoorMg18
import Derived.Test.YtjhifpidbobmaaaGreatDoorMg02
/- areAll at int64: for any closure. -/
namespace Go.Proofs.YtjhifpidbobmaaaGreatDoor
open Go.RowKit
set_option linter.unusedVariables false
set_option linter.unusedSimpArgs false
set_option maxRecDepth 100000

set_option maxHeartbeats 800000 in
theorem c_indexI64 (F : Nat) (caps : Array Value) (he : ∀ args w, (callFunc F args).run Tryz.prog w = .ok (.enter F args) w) (q : Nat → Bool) (A : Option Addr) (n c : Nat) (zs : List Int) (w : World) (h : RdRow w A (nums .i64 zs)) (hl : zs.length = n) (hn : n ≤ 1048576)
    (hstep : ∀ j, j < n → ∀ w1, Below w.heap.size w w1 → Calls Tryz.prog F (#[.int .i64 (gi zs j)] ++ caps) w1 fun e w2 => e = .returned (.bool (q j)) ∧ Below w1.heap.size w1 w2) :
    Calls Tryz.prog 90 #[.slice A n c, .func (.func F) #[] caps] w fun e w' => ∃ r : Int, e = .returned (.int .i64 r) ∧ decide (0 ≤ r) = (!(allB n fun j => !q j)) ∧ Below w.heap.size w w' := by
  have H := Lib.hid h
  have HL := Lib.hid hl
  have HS := Lib.hid hstep
  clear h hstep hl
  go_enter Tryz.func90, Tryz.ntmps90
  go_wp2
  go_loopw [8] (fun i wr => ∃ k : Nat, k ≤ n ∧ i = .int .i64 k ∧ Hid (allB k (fun j => !q j) = true) ∧ Hid (Below w.heap.size w wr)) (fun i _ => n - (intOf i).toNat)
  case atStart => exact ⟨0, by omega, rfl, rfl, Below.refl _ _⟩
  case round =>
    obtain ⟨k, hk, rfl, hI, hB⟩ := hrel
    by_cases hlt : k < n
    · have d1 : decide ((k : Int) < (n : Int)) = true := by simp; omega
      obtain ⟨ad, rfl, c0⟩ := (RdRow.below H.out hB.out) k _ (nums_get (by rw [HL.out]; exact hlt))
      have k0 : (0 : Int) ≤ (k : Int) := by omega
      have k1 : (k : Int) < (n : Int) := by omega
      go_wp2
      refine (HS.out k hlt wr hB.out).mono ?_
      rintro e w1 ⟨rfl, hb⟩
      have hB1 := Lib.hid (Below.trans hB.out (hb.mono hB.out.size))
      cases hq : q k
      · have E : Hid (allB (k + 1) (fun j => !q j) = true) := by rw [Hid, allB, hI.out, hq]; rfl
        go_wp2
        go_roundw
        case rel => exact ⟨k + 1, by omega, by go_num, E, hB1⟩
        case measure => simp [intOf]; omega
      · have E := Lib.hid (allB_stop (p := fun j => !q j) (k := k) (n := n) (by simp [hq]) hlt)
        go_wp2
        go_ret
        exact ⟨_, rfl, by rw [E.out]; simp, hB1.out⟩
    · obtain rfl : k = n := by omega
      have d1 : decide ((k : Int) < (k : Int)) = false := by simp
      go_wp2
      go_ret
      exact ⟨_, rfl, by rw [hI.out]; rfl, hB.out⟩
theorem c_areAllI641 (F : Nat) (caps : Array Value) (he : ∀ args w, (callFunc F args).run Tryz.prog w = .ok (.enter F args) w) (x : Int) (r : Bool) (b : Nat) (w : World) (hc : w.cell? ⟨b, 0, none⟩ = some (.func (.func F) #[] caps)) (hb : b < w.heap.size)
    (hcl : ∀ w1, Below w.heap.size w w1 → Calls Tryz.prog F (#[.int .i64 x] ++ caps) w1 fun e w2 => e = .returned (.bool r) ∧ Below w1.heap.size w1 w2) :
    Calls Tryz.prog 74 #[.int .i64 x, .pointer (some ⟨b, 0, none⟩)] w fun e w' => e = .returned (.bool (!r)) ∧ Below w.heap.size w w' := by
  have hne : ¬ b = w.heap.size := by omega
  have HCL := Lib.hid hcl
  clear hcl
  go_enter Tryz.func74, Tryz.ntmps74
  go_wp2
  refine (HCL.out _ (by (repeat (first | with_reducible exact Below.refl _ _ | with_reducible refine below_alloc ?_ _ | with_reducible refine below_drew ?_ | with_reducible refine below_drewN ?_ _ | with_reducible refine below_then ?_ (by assumption))))).mono ?_
  rintro e w1 ⟨rfl, hb⟩
  go_wp2
  go_ret
  exact ⟨rfl, by (repeat (first | with_reducible exact Below.refl _ _ | with_reducible refine below_alloc ?_ _ | with_reducible refine below_drew ?_ | with_reducible refine below_drewN ?_ _ | with_reducible refine below_then ?_ (by assumption)))⟩
theorem c_areAllI64 (F : Nat) (caps : Array Value) (hef : ∀ args w, (callFunc F args).run Tryz.prog w = .ok (.enter F args) w) (q : Nat → Bool) (A : Option Addr) (n c : Nat) (zs : List Int) (w : World) (h : RdRow w A (nums .i64 zs)) (hl : zs.length = n) (hn : n ≤ 1048576)
    (hcl : ∀ j, j < n → ∀ w1, Below w.heap.size w w1 → Calls Tryz.prog F (#[.int .i64 (gi zs j)] ++ caps) w1 fun e w2 => e = .returned (.bool (q j)) ∧ Below w1.heap.size w1 w2) :
    Calls Tryz.prog 51 #[.slice A n c, .func (.func F) #[] caps] w fun e w' => e = .returned (.bool (allB n q)) ∧ Below w.heap.size w w' := by
  have he : ∀ args w, (callFunc 74 args).run Tryz.prog w = .ok (.enter 74 args) w := enters_of Tryz.func74 (by kernel_rfl) rfl
  have hB : Below w.heap.size w (w.alloc (.cells #[.func (.func F) #[] caps] 79 (0, 0))) := by (repeat (first | with_reducible exact Below.refl _ _ | with_reducible refine below_alloc ?_ _ | with_reducible refine below_drew ?_ | with_reducible refine below_drewN ?_ _ | with_reducible refine below_then ?_ (by assumption)))
  have hcell := cell_of_row _ w.heap.size 0 _ _ _ (heap_alloc_new w (.cells #[.func (.func F) #[] caps] 79 (0, 0)))
  have hI := c_indexI64 74 #[.pointer (some ⟨w.heap.size, 0, none⟩)] he (fun j => !q j) A n c zs (w.alloc (.cells #[.func (.func F) #[] caps] 79 (0, 0))) (RdRow.below h hB) hl hn
    (fun j hj w1 hb => c_areAllI641 F caps hef (gi zs j) (q j) w.heap.size w1 ((hb.cell (p := ⟨w.heap.size, 0, none⟩) (by simp)).trans hcell) (Nat.lt_of_lt_of_le (by simp) hb.size) (fun w2 hb2 => hcl j hj w2 (Below.trans (Below.trans hB (hb.mono hB.size)) (hb2.mono (Nat.le_trans hB.size hb.size)))))
  have HI := Lib.hid hI
  have HB := Lib.hid hB
  have EN := allB_not n q
  have HE := Lib.hid EN
  clear hI hcell hB EN hcl
  have HC : Hid (Calls Tryz.prog 73 #[.slice A n c, .func (.func 74) #[] #[.pointer (some ⟨w.heap.size, 0, none⟩)]] (w.alloc (.cells #[.func (.func F) #[] caps] 79 (0, 0))) fun e w' => e = .returned (.bool (!(allB n q))) ∧ Below w.heap.size w w') := by
    show Calls _ _ _ _ _
    generalize w.alloc (.cells #[.func (.func F) #[] caps] 79 (0, 0)) = wa at *
    go_enter Tryz.func73, Tryz.ntmps73
    go_wp2_with (go_at_call 90; ((with_reducible refine HI.out.mono ?_); rintro e w1 ⟨r, rfl, hz, hb⟩; have HZ := Lib.hid hz; clear hz))
    go_ret
    exact ⟨by rw [← HE.out, ← HZ.out]; rfl, Below.trans HB.out (hb.mono HB.out.size)⟩
  clear HI
  go_enter Tryz.func51, Tryz.ntmps51
  go_wp2_with (go_at_call 73; ((with_reducible refine HC.out.mono ?_); rintro e w1 ⟨rfl, hb⟩))
  go_ret
  exact ⟨by simp, hb⟩
end Go.Proofs.YtjhifpidbobmaaaGreatDoor
/- Cents shared by grams: plain lists. -/
namespace Go.Proofs.YtjhifpidbobmaaaGreatDoor
open Go.RowKit Go.Sort
set_option linter.unusedVariables false
set_option linter.unusedSimpArgs false

theorem gi_setS {xs : List Int} {i j : Nat} (v : Int) (hi : i < xs.length) : gi (xs.set i v) j = if j = i then v else gi xs j := by
  unfold gi
  rw [List.getD_eq_getElem?_getD, List.getElem?_set]
  by_cases c : j = i
  · subst c; simp [hi]
  · rw [if_neg (fun e => c e.symm), if_neg c, List.getD_eq_getElem?_getD]
def sumZ (zs : List Int) : Nat → Int
  | 0 => 0
  | k + 1 => sumZ zs k + gi zs k
def quoZ (c all : Int) (zs : List Int) (i : Nat) : Int := (c * gi zs i).tdiv all
def remZ (c all : Int) (zs : List Int) (i : Nat) : Int := (c * gi zs i).tmod all
def leftZ (c all : Int) (zs : List Int) : Nat → Int
  | 0 => c
  | k + 1 => leftZ c all zs k - quoZ c all zs k
def remS (c all : Int) (zs : List Int) : Nat → Int
  | 0 => 0
  | k + 1 => remS c all zs k + remZ c all zs k
structure ShOk (c all : Int) (zs : List Int) (n : Nat) : Prop where
  c0 : 0 ≤ c
  c1 : c ≤ 1000000
  g : ∀ i, i < n → 0 ≤ gi zs i ∧ gi zs i ≤ 5000
  n60 : n ≤ 60
  tot : all = sumZ zs n
  pos : 0 < all
theorem sumZ_mono {zs : List Int} {n : Nat} (g : ∀ i, i < n → 0 ≤ gi zs i ∧ gi zs i ≤ 5000) : ∀ k, k ≤ n → 0 ≤ sumZ zs k ∧ sumZ zs k ≤ 5000 * (k : Int) ∧ ∀ j, j ≤ k → sumZ zs j ≤ sumZ zs k
  | 0, _ => ⟨by simp [sumZ], by simp [sumZ], fun j hj => by obtain rfl : j = 0 := by omega
                                                            exact Int.le_refl _⟩
  | k + 1, h => by
    obtain ⟨h1, h2, h3⟩ := sumZ_mono g k (by omega)
    have := g k (by omega)
    refine ⟨by simp only [sumZ]; omega, by simp only [sumZ]; omega, fun j hj => ?_⟩
    by_cases e : j = k + 1
    · subst e; exact Int.le_refl _
    · have := h3 j (by omega)
      simp only [sumZ]; omega
theorem quo_split (c all : Int) (zs : List Int) (i : Nat) : quoZ c all zs i * all + remZ c all zs i = c * gi zs i := by
  have := Int.mul_tdiv_add_tmod (c * gi zs i) all
  unfold quoZ remZ
  rw [Int.mul_comm]; exact this
theorem left_eq (c all : Int) (zs : List Int) : ∀ k, leftZ c all zs k * all = c * (all - sumZ zs k) + remS c all zs k
  | 0 => by simp [leftZ, sumZ, remS]
  | k + 1 => by
    have ih := left_eq c all zs k
    have h1 := quo_split c all zs k
    simp only [leftZ, sumZ, remS]
    rw [Int.sub_mul, ih, show all - (sumZ zs k + gi zs k) = (all - sumZ zs k) - gi zs k by omega, Int.mul_sub c (all - sumZ zs k)]
    omega
section
variable {c all : Int} {zs : List Int} {n : Nat} (h : ShOk c all zs n)
include h
theorem ShOk.prod {i : Nat} (hi : i < n) : 0 ≤ c * gi zs i ∧ c * gi zs i ≤ 5000000000 := by
  have hg := h.g i hi
  refine ⟨Int.mul_nonneg h.c0 hg.1, ?_⟩
  have := Int.mul_le_mul h.c1 hg.2 hg.1 (by decide)
  omega
theorem ShOk.gall {i : Nat} (hi : i < n) : gi zs i ≤ all := by
  have hm := sumZ_mono h.g n (Nat.le_refl _)
  have := hm.2.2 (i + 1) hi
  have h0 := (sumZ_mono h.g i (by omega)).1
  rw [h.tot]
  simp only [sumZ] at this
  omega
theorem ShOk.rem {i : Nat} (hi : i < n) : 0 ≤ remZ c all zs i ∧ remZ c all zs i < all :=
  ⟨Int.tmod_nonneg _ (h.prod hi).1, Int.tmod_lt_of_pos _ h.pos⟩
theorem ShOk.quo {i : Nat} (hi : i < n) : 0 ≤ quoZ c all zs i ∧ quoZ c all zs i ≤ c := by
  refine ⟨Int.tdiv_nonneg (h.prod hi).1 (Int.le_of_lt h.pos), ?_⟩
  have h1 := quo_split c all zs i
  have h2 := h.rem hi
  have h3 := h.gall hi
  have h4 : c * gi zs i ≤ c * all := Int.mul_le_mul_of_nonneg_left h3 h.c0
  exact Int.le_of_mul_le_mul_right (by omega : quoZ c all zs i * all ≤ c * all) h.pos
theorem ShOk.rems : ∀ k, k ≤ n → 0 ≤ remS c all zs k ∧ remS c all zs k + (k : Int) ≤ (k : Int) * all
  | 0, _ => by simp [remS]
  | k + 1, hk => by
    have ih := ShOk.rems k (by omega)
    have h1 := h.rem (i := k) (by omega)
    refine ⟨by simp only [remS]; omega, ?_⟩
    have e : ((k + 1 : Nat) : Int) * all = (k : Int) * all + all := by rw [Int.natCast_add, Int.add_mul]; simp
    rw [e]
    simp only [remS]
    omega
theorem ShOk.left {k : Nat} (hk : k ≤ n) : 0 ≤ leftZ c all zs k ∧ leftZ c all zs k ≤ c := by
  constructor
  · have h1 := left_eq c all zs k
    have h2 := h.rems k hk
    have h3 := (sumZ_mono h.g n (Nat.le_refl _)).2.2 k hk
    have h4 : 0 ≤ c * (all - sumZ zs k) := Int.mul_nonneg h.c0 (by rw [h.tot]; omega)
    have h5 : 0 * all ≤ leftZ c all zs k * all := by rw [h1]; omega
    exact Int.le_of_mul_le_mul_right h5 h.pos
  · induction k with
    | zero => exact Int.le_refl _
    | succ k ih =>
      have := h.quo (i := k) (by omega)
      have := ih (by omega)
      simp only [leftZ]; omega
theorem ShOk.left_lt : leftZ c all zs n ≤ (n : Int) := by
  have h1 := left_eq c all zs n
  have h2 := h.rems n (Nat.le_refl _)
  rw [← h.tot, Int.sub_self, Int.mul_zero] at h1
  exact Int.le_of_mul_le_mul_right (by omega : leftZ c all zs n * all ≤ (n : Int) * all) h.pos
end

/-! ### The one who gets the next cent -/
def selB (key : Nat → Int) (gv : Nat → Bool) : Nat → Int
  | 0 => -1
  | i + 1 => if gv i = false ∧ (selB key gv i < 0 ∨ key (selB key gv i).toNat < key i) then (i : Int) else selB key gv i
theorem selB_ok (key : Nat → Int) (gv : Nat → Bool) : ∀ m, (selB key gv m = -1 ∧ ∀ i, i < m → gv i = true) ∨ ∃ r : Nat, selB key gv m = (r : Int) ∧ r < m ∧ gv r = false ∧ ∀ i, i < m → gv i = false → i ≠ r → TK key r i
  | 0 => .inl ⟨rfl, fun i hi => by omega⟩
  | m + 1 => by
    rcases selB_ok key gv m with ⟨e, ha⟩ | ⟨r, e, hr, hg, ha⟩
    · cases hm : gv m
      · refine .inr ⟨m, ?_, by omega, hm, fun i hi hgi hne => ?_⟩
        · rw [selB, if_pos ⟨hm, .inl (by omega)⟩]
        · have := ha i (by omega); rw [this] at hgi; cases hgi
      · refine .inl ⟨by rw [selB, if_neg (by rw [hm]; simp), e], fun i hi => ?_⟩
        by_cases c : i = m
        · subst c; exact hm
        · exact ha i (by omega)
    · by_cases hc : gv m = false ∧ key r < key m
      · refine .inr ⟨m, ?_, by omega, hc.1, fun i hi hgi hne => ?_⟩
        · rw [selB, if_pos ⟨hc.1, .inr (by rw [e]; exact hc.2)⟩]
        · have := ha i (by omega) hgi
          by_cases c : i = r
          · subst c; exact .inl hc.2
          · have := this c
            unfold TK at this ⊢; omega
      · refine .inr ⟨r, ?_, by omega, hg, fun i hi hgi hne => ?_⟩
        · rw [selB, if_neg, e]
          rintro ⟨h1, h2 | h2⟩
          · omega
          · rw [e] at h2; exact hc ⟨h1, h2⟩
        · by_cases c : i = m
          · subst c
            have : ¬ key r < key i := fun h => hc ⟨hgi, h⟩
            unfold TK; omega
          · exact ha i (by omega) hgi hne
def gvK (key : Nat → Int) (n : Nat) : Nat → Nat → Bool
  | 0 => fun _ => false
  | k + 1 => fun i => gvK key n k i || (selB key (gvK key n k) n == (i : Int))
def ordK (key : Nat → Int) (n k : Nat) : Int := selB key (gvK key n k) n
def outK (base : List Int) (key : Nat → Int) (n : Nat) : Nat → List Int
  | 0 => base
  | k + 1 => (outK base key n k).set (ordK key n k).toNat (gi (outK base key n k) (ordK key n k).toNat + 1)
theorem seg_inj {key : Nat → Int} {n : Nat} {d : Array Nat} (h : Seg (TK key) 0 n d) {i j : Nat} (hi : i < n) (hj : j < n) (e : d[i]! = d[j]!) : i = j := by
  by_cases c : i = j
  · exact c
  · by_cases c2 : i < j
    · have := h.asc i j (Nat.zero_le _) c2 hj
      rw [e] at this; exact (TK.irrefl key _ this).elim
    · have := h.asc j i (Nat.zero_le _) (by omega) hi
      rw [e] at this; exact (TK.irrefl key _ this).elim
theorem ord_of {key : Nat → Int} {n : Nat} {d : Array Nat} (h : Seg (TK key) 0 n d) : ∀ k, k ≤ n → (∀ i, i < n → (gvK key n k i = true ↔ ∃ j, j < k ∧ d[j]! = i)) ∧ (k < n → ordK key n k = ((d[k]! : Nat) : Int))
  | k, hk => by
    have step : (∀ i, i < n → (gvK key n k i = true ↔ ∃ j, j < k ∧ d[j]! = i)) → (k < n → ordK key n k = ((d[k]! : Nat) : Int)) := by
      intro hG hkn
      have hdk := h.inn k (Nat.zero_le _) hkn
      have ng : gvK key n k d[k]! = false := by
        rw [← Bool.not_eq_true]
        intro hc
        obtain ⟨j, hj, e⟩ := (hG _ hdk.2).1 hc
        have := seg_inj h (by omega) hkn e
        omega
      rcases selB_ok key (gvK key n k) n with ⟨e, ha⟩ | ⟨r, e, hr, hg, ha⟩
      · have := ha _ hdk.2; rw [ng] at this; cases this
      · unfold ordK
        rw [e]
        by_cases c : r = d[k]!
        · rw [c]
        · have h1 := ha _ hdk.2 ng (fun e => c e.symm)
          obtain ⟨j, _, hj, ej⟩ := h.onn r (Nat.zero_le _) hr
          have hjk : ¬ j < k := fun hj' => by
            have := (hG r hr).2 ⟨j, hj', ej⟩
            rw [hg] at this; cases this
          have hjk2 : j ≠ k := fun e2 => c (by rw [← ej, e2])
          have h2 := h.asc k j (Nat.zero_le _) (by omega) hj
          rw [ej] at h2
          exact (TK.asymm key h1 h2).elim
    have hG : ∀ i, i < n → (gvK key n k i = true ↔ ∃ j, j < k ∧ d[j]! = i) := by
      match k, hk, step with
      | 0, _, _ => intro i _; simp [gvK]
      | k + 1, hk, _ =>
        intro i hi
        obtain ⟨ih1, ih2⟩ := ord_of h k (by omega)
        have ih3 := ih2 (by omega)
        unfold ordK at ih3
        simp only [gvK, Bool.or_eq_true, beq_iff_eq]
        rw [ih1 i hi, ih3]
        constructor
        · rintro (⟨j, hj, e⟩ | e)
          · exact ⟨j, by omega, e⟩
          · exact ⟨k, by omega, by omega⟩
        · rintro ⟨j, hj, e⟩
          by_cases c : j = k
          · subst c; exact .inr (by omega)
          · exact .inl ⟨j, by omega, e⟩
    exact ⟨hG, step hG⟩
theorem ident_get {n : Nat} : ∀ p, p < n → (List.range n).toArray[p]! = p := fun p hp => by simp [hp]
theorem ord_ex (key : Nat → Int) (n : Nat) : ∃ d : Array Nat, Seg (TK key) 0 n d :=
  ⟨_, (ins_seg (key := key) (a := 0) (b := n) (d := (List.range n).toArray) (Nat.zero_le _) (by simp) fun p _ hp => ident_get p hp).1⟩
theorem ordK_bd (key : Nat → Int) {n k : Nat} (hk : k < n) : ∃ r : Nat, ordK key n k = (r : Int) ∧ r < n := by
  obtain ⟨d, h⟩ := ord_ex key n
  exact ⟨d[k]!, (ord_of h k (by omega)).2 hk, (h.inn k (Nat.zero_le _) hk).2⟩
theorem outK_len (base : List Int) (key : Nat → Int) (n : Nat) : ∀ k, (outK base key n k).length = base.length
  | 0 => rfl
  | k + 1 => by simp [outK, outK_len base key n k]
theorem outK_bd {base : List Int} {key : Nat → Int} {n : Nat} (hb : ∀ i, i < n → 0 ≤ gi base i ∧ gi base i ≤ 1000000) (hl : base.length = n) : ∀ k, k ≤ n → ∀ i, i < n → 0 ≤ gi (outK base key n k) i ∧ gi (outK base key n k) i ≤ 1000000 + (k : Int)
  | 0, _, i, hi => by have := hb i hi; simp only [outK]; omega
  | k + 1, hk, i, hi => by
    have ih := outK_bd (key := key) hb hl k (by omega)
    obtain ⟨r, e, hr⟩ := ordK_bd key (show k < n by omega)
    have h1 := ih i hi
    have h2 := ih r hr
    rw [outK, e, Int.toNat_natCast, gi_setS _ (by rw [outK_len, hl]; exact hr)]
    split <;> omega
def baseZ (c all : Int) (zs : List Int) (n : Nat) : List Int := (List.range n).map (quoZ c all zs)
def fineZ (c : Int) (zs : List Int) (n : Nat) : Bool := inB c 0 1000000 && allB n (fun j => inB (gi zs j) 0 5000)
/-- What the reference answers. -/
def shareF (c : Int) (zs : List Int) (n : Nat) : List Int × Int :=
  if fineZ c zs n = false then ([], 2) else if 60 < n then ([], 3) else if sumZ zs n = 0 then ([], 6)
  else (outK (baseZ c (sumZ zs n) zs n) (remZ c (sumZ zs n) zs) n (leftZ c (sumZ zs n) zs n).toNat, 0)
end Go.Proofs.YtjhifpidbobmaaaGreatDoor
