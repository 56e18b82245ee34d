/- Served or not, and what is left: the program's and the reference's answers. -/
import Derived.Test.YtfdljhepfoppaaaLeftImpl
namespace Go.Proofs.Ytfdljhepfoppaaa
open Go.RowKit
set_option linter.unusedVariables false
set_option linter.unusedSimpArgs false
set_option maxRecDepth 100000

def lotsOk (nl : Nat) (s g : Nat → Int) : Bool := allB nl (fun j => shade (s j) && inB (g j) 0 5000) && decide (nl ≤ 6)
def ordersOk (no : Nat) (so go : Nat → Int) : Bool := allB no (fun j => shade (so j) && inB (go j) 1 5000) && decide (no ≤ 7)
def servedF (nl no np : Nat) (s g so go : Nat → Int) (zs : List Int) : Bool × Int :=
  if (lotsOk nl s g && ordersOk no so go) = true then ((leftF nl no np s g so go zs).isSome, 0) else (false, 1)
def leftInF (nl no np : Nat) (s g so go : Nat → Int) (zs : List Int) : List Int × Int :=
  if (lotsOk nl s g && ordersOk no so go) = true then (match leftF nl no np s g so go zs with | none => ([], 4) | some l => (l, 0)) else ([], 1)
theorem leftS_len {nl : Nat} {s g so go : Nat → Int} {zs : List Int} : ∀ {k : Nat} {l : List Int}, leftS nl s g so go zs k = some l → l.length = nl
  | 0, l, h => by simp [leftS] at h; subst h; simp
  | k + 1, l, h => by
    rw [leftS, Option.bind_eq_some_iff] at h
    obtain ⟨l', h1, h2⟩ := h
    have := leftS_len h1
    unfold stepL at h2
    split at h2
    · cases h2; exact this
    · split at h2
      · cases h2; simpa using this
      · cases h2
theorem leftF_len {nl no np : Nat} {s g so go : Nat → Int} {zs : List Int} {l : List Int} (h : leftF nl no np s g so go zs = some l) : l.length = nl := by
  unfold leftF at h
  split at h
  · exact leftS_len h
  · cases h
theorem leftInF_le (nl no np : Nat) (s g so go : Nat → Int) (zs : List Int) : (leftInF nl no np s g so go zs).1.length ≤ nl := by
  unfold leftInF
  split
  · cases h : leftF nl no np s g so go zs with
    | none => simp
    | some l => simp [leftF_len h]
  · simp
theorem lotsOk_bd {nl : Nat} {s g : Nat → Int} (h : lotsOk nl s g = true) : nl ≤ 6 ∧ ∀ j, j < nl → 0 ≤ g j ∧ g j ≤ 5000 := by
  simp only [lotsOk, Bool.and_eq_true] at h
  refine ⟨of_decide_eq_true h.2, fun j hj => ?_⟩
  have := allB_get h.1 j hj
  simp [inB] at this
  omega
theorem ordersOk_bd {no : Nat} {so go : Nat → Int} (h : ordersOk no so go = true) : no ≤ 7 ∧ ∀ j, j < no → 1 ≤ go j ∧ go j ≤ 5000 := by
  simp only [ordersOk, Bool.and_eq_true] at h
  refine ⟨of_decide_eq_true h.2, fun j hj => ?_⟩
  have := allB_get h.1 j hj
  simp [inB] at this
  omega
theorem c_areValid (A B : Option Addr) (nl no c c1 : Nat) (s g so go : Nat → Int) (w : World) (hL : LotsAt w A nl s g) (hO : LotsAt w B no so go) (hnl : nl ≤ 1048576) (hno : no ≤ 1048576) (hg : ∀ j, j < nl → -32768 ≤ g j ∧ g j ≤ 32767) (hgo : ∀ j, j < no → -32768 ≤ go j ∧ go j ≤ 32767) :
    Calls Try.prog 35 #[.slice A nl c, .slice B no c1] w fun e w' => e = .returned (.bool (lotsOk nl s g && ordersOk no so go)) ∧ Below w.heap.size w w' := by
  have HO := Lib.hid hO
  have c0 := c_iValidLots A nl c s g w hL hnl hg
  have c1 := fun w h => c_iValidOrders B no c1 so go w h hno hgo
  have E1 : (allB nl (fun j => okLot (s j) (g j)) && decide (nl ≤ 6)) = lotsOk nl s g := rfl
  have E2 : (allB no (fun j => okOrder (so j) (go j)) && decide (no ≤ 7)) = ordersOk no so go := rfl
  rw [E1] at c0
  simp only [E2] at c1
  clear E1 E2
  generalize lotsOk nl s g = x at *
  generalize ordersOk no so go = y at *
  have C0 := Lib.hid c0
  have C1 := fun w h => Lib.hid (c1 w h)
  clear c0 c1 hL hO hg hgo
  cases x
  · go_enter Try.func35, Try.ntmps35
    go_wp2_with (go_at_call 19; ((with_reducible refine C0.out.mono ?_); rintro e w1 ⟨rfl, hb⟩))
    go_ret
    exact ⟨rfl, hb⟩
  · go_enter Try.func35, Try.ntmps35
    go_wp2_with (first
      | (go_at_call 19; ((with_reducible refine C0.out.mono ?_); rintro e w1 ⟨rfl, hb⟩; have HO := Lib.hid (HO.out.below hb)))
      | (go_at_call 20; ((with_reducible refine (C1 _ HO.out).out.mono ?_); rintro e w1 ⟨rfl, hb⟩)))
    go_ret
    exact ⟨by simp, by (repeat (first | with_reducible exact Below.refl _ _ | with_reducible refine below_alloc ?_ _ | with_reducible refine below_drew ?_ | with_reducible refine below_drewN ?_ _ | with_reducible refine below_then ?_ (by assumption)))⟩

section
variable (A B C : Option Addr) (nl no np c c1 c2 : Nat) (s g so go : Nat → Int) (zs : List Int) (w : World)
set_option maxHeartbeats 1000000 in
theorem c_sLeftIn (hL : LotsAt w A nl s g) (hO : LotsAt w B no so go) (hP : RdRow w C (nums .i64 zs)) (hz : zs.length = np) (hnl : nl ≤ 1048576) (hno : no ≤ 1048576) (hnp : np ≤ 1048576)
    (hg : ∀ j, j < nl → -32768 ≤ g j ∧ g j ≤ 32767) (hgo : ∀ j, j < no → -32768 ≤ go j ∧ go j ≤ 32767) (hzb : ∀ j, -9223372036854775808 ≤ gi zs j ∧ gi zs j ≤ 9223372036854775807) :
    Calls Try.prog 23 #[.slice A nl c, .slice B no c1, .slice C np c2] w fun e w' => ∃ v, e = .returned (.tuple #[v, .int .i64 (leftInF nl no np s g so go zs).2]) ∧ w'.ownsRow w.heap.size 2 1 v (leftInF nl no np s g so go zs).1.length (nums .i64 (leftInF nl no np s g so go zs).1) ∧ Below w.heap.size w w' := by
  have c0 := c_l07Lots A nl c s g w hL hnl hg
  have d0 := c_l07Orders B no c1 so go w hO hno hgo
  have E1 : (allB nl (fun j => shade (s j) && inB (g j) 0 5000) && decide (nl ≤ 6)) = lotsOk nl s g := rfl
  have E2 : (allB no (fun j => shade (so j) && inB (go j) 1 5000) && decide (no ≤ 7)) = ordersOk no so go := rfl
  rw [E1] at c0
  rw [E2] at d0
  clear E1 E2
  have ho := own_empty (base := w.heap.size) (e := 2) (size := 1) (heap_alloc_new w (.cells #[] 2 (0, 0))) (Nat.le_refl _)
  have HE := Lib.hid ho
  clear ho
  cases q1 : lotsOk nl s g
  · have E : Hid (leftInF nl no np s g so go zs = ([], 1)) := by rw [Hid, leftInF, q1]; rfl
    rw [q1] at c0
    have C0 := Lib.hid c0
    clear c0 d0 hL hO hP hg hgo hzb q1
    go_enter Try.func23, Try.ntmps23
    go_wp2_with (go_at_call 31; ((with_reducible refine C0.out.mono ?_); rintro e w1 ⟨rfl, rfl⟩))
    exact bodyPost_ret (v := .tuple #[.slice (some ⟨w.heap.size, 0, none⟩) 0 0, .int .i64 1]) (by simp [results, Try.results23, go_sem]) rfl ⟨_, by rw [E.out], by rw [E.out]; exact HE.out, by (repeat (first | with_reducible exact Below.refl _ _ | with_reducible refine below_alloc ?_ _ | with_reducible refine below_drew ?_ | with_reducible refine below_drewN ?_ _ | with_reducible refine below_then ?_ (by assumption)))⟩
  · rw [q1] at c0
    have C0 := Lib.hid c0
    cases q2 : ordersOk no so go
    · have E : Hid (leftInF nl no np s g so go zs = ([], 1)) := by rw [Hid, leftInF, q1, q2]; rfl
      rw [q2] at d0
      have D0 := Lib.hid d0
      clear c0 d0 hL hO hP hg hgo hzb q1 q2
      go_enter Try.func23, Try.ntmps23
      go_wp2_with (first
        | (go_at_call 31; ((with_reducible refine C0.out.mono ?_); rintro e w1 ⟨rfl, rfl⟩))
        | (go_at_call 32; ((with_reducible refine D0.out.mono ?_); rintro e w1 ⟨rfl, rfl⟩)))
      exact bodyPost_ret (v := .tuple #[.slice (some ⟨w.heap.size, 0, none⟩) 0 0, .int .i64 1]) (by simp [results, Try.results23, go_sem]) rfl ⟨_, by rw [E.out], by rw [E.out]; exact HE.out, by (repeat (first | with_reducible exact Below.refl _ _ | with_reducible refine below_alloc ?_ _ | with_reducible refine below_drew ?_ | with_reducible refine below_drewN ?_ _ | with_reducible refine below_then ?_ (by assumption)))⟩
    · rw [q2] at d0
      have D0 := Lib.hid d0
      obtain ⟨h6, hg'⟩ := lotsOk_bd q1
      obtain ⟨h7, hgo'⟩ := ordersOk_bd q2
      have CL := c_l07Left A B C nl no np c c1 c2 s g so go zs w hL hO hP hz h6 h7 hnp hg' hgo' hzb
      have hlen := fun l => leftF_len (l := l) (nl := nl) (no := no) (np := np) (s := s) (g := g) (so := so) (go := go) (zs := zs)
      cases ef : leftF nl no np s g so go zs with
      | none =>
        have E : Hid (leftInF nl no np s g so go zs = ([], 4)) := by rw [Hid, leftInF, q1, q2, ef]; rfl
        rw [ef] at CL
        have CL := Lib.hid CL
        clear c0 d0 hL hO hP hg hgo hzb q1 q2 hg' hgo' hlen ef
        go_enter Try.func23, Try.ntmps23
        go_wp2_with (first
          | (go_at_call 31; ((with_reducible refine C0.out.mono ?_); rintro e w1 ⟨rfl, rfl⟩))
          | (go_at_call 32; ((with_reducible refine D0.out.mono ?_); rintro e w1 ⟨rfl, rfl⟩))
          | (go_at_call 53; ((with_reducible refine CL.out.mono ?_); rintro e w1 ⟨v, rfl, hO, hb⟩)))
        have hz1 := hb.size
        exact bodyPost_ret (v := .tuple #[.slice (some ⟨w1.heap.size, 0, none⟩) 0 0, .int .i64 4]) (by simp [results, Try.results23, go_sem]) rfl ⟨_, by rw [E.out], by rw [E.out]; exact own_empty (heap_alloc_new w1 _) hz1, by (repeat (first | with_reducible exact Below.refl _ _ | with_reducible refine below_alloc ?_ _ | with_reducible refine below_drew ?_ | with_reducible refine below_drewN ?_ _ | with_reducible refine below_then ?_ (by assumption)))⟩
      | some l =>
        have E : Hid (leftInF nl no np s g so go zs = (l, 0)) := by rw [Hid, leftInF, q1, q2, ef]; rfl
        have hl := hlen l ef
        rw [ef] at CL
        have CL := Lib.hid CL
        clear c0 d0 hL hO hP hg hgo hzb q1 q2 hg' hgo' hlen ef
        go_enter Try.func23, Try.ntmps23
        go_wp2_with (first
          | (go_at_call 31; ((with_reducible refine C0.out.mono ?_); rintro e w1 ⟨rfl, rfl⟩))
          | (go_at_call 32; ((with_reducible refine D0.out.mono ?_); rintro e w1 ⟨rfl, rfl⟩))
          | (go_at_call 53; ((with_reducible refine CL.out.mono ?_); rintro e w1 ⟨v, rfl, hO, hb⟩)))
        exact bodyPost_ret (v := .tuple #[v, .int .i64 0]) (by simp [results, Try.results23, go_sem]) rfl ⟨_, by rw [E.out], by rw [E.out, hl]; exact hO l rfl, hb⟩
set_option maxHeartbeats 1000000 in
theorem c_iLeftIn (hL : LotsAt w A nl s g) (hO : LotsAt w B no so go) (hP : RdRow w C (nums .i64 zs)) (hz : zs.length = np) (hnl : nl ≤ 1048576) (hno : no ≤ 1048576) (hnp : np ≤ 1048576)
    (hg : ∀ j, j < nl → -32768 ≤ g j ∧ g j ≤ 32767) (hgo : ∀ j, j < no → -32768 ≤ go j ∧ go j ≤ 32767) (hzb : ∀ j, -9223372036854775808 ≤ gi zs j ∧ gi zs j ≤ 9223372036854775807) :
    Calls Try.prog 22 #[.slice A nl c, .slice B no c1, .slice C np c2] w fun e w' => ∃ v, e = .returned (.tuple #[v, .int .i64 (leftInF nl no np s g so go zs).2]) ∧ w'.ownsRow w.heap.size 2 1 v (leftInF nl no np s g so go zs).1.length (nums .i64 (leftInF nl no np s g so go zs).1) ∧ Below w.heap.size w w' := by
  have c0 := c_areValid A B nl no c c1 s g so go w hL hO hnl hno hg hgo
  cases q1 : (lotsOk nl s g && ordersOk no so go)
  · have E : Hid (leftInF nl no np s g so go zs = ([], 1)) := by rw [Hid, leftInF, q1]; rfl
    rw [q1] at c0
    have C0 := Lib.hid c0
    clear c0 hL hO hP hg hgo hzb q1
    go_enter Try.func22, Try.ntmps22
    go_wp2_with (go_at_call 35; ((with_reducible refine C0.out.mono ?_); rintro e w1 ⟨rfl, hb⟩))
    exact bodyPost_ret (v := .tuple #[.slice none 0 0, .int .i64 1]) (by simp [results, Try.results22, go_sem]) rfl ⟨_, by rw [E.out], by rw [E.out]; exact own_nil _ _ _ _, hb⟩
  · rw [q1] at c0
    have C0 := Lib.hid c0
    have q12 : lotsOk nl s g = true ∧ ordersOk no so go = true := by simpa only [Bool.and_eq_true] using q1
    obtain ⟨h6, hg'⟩ := lotsOk_bd q12.1
    obtain ⟨h7, hgo'⟩ := ordersOk_bd q12.2
    have CL := fun w hL hO hP => c_leftBy A B C nl no np c c1 c2 s g so go zs w hL hO hP hz h6 h7 hnp hg' hgo' hzb
    have hlen := fun l => leftF_len (l := l) (nl := nl) (no := no) (np := np) (s := s) (g := g) (so := so) (go := go) (zs := zs)
    have HL := Lib.hid hL
    have HO := Lib.hid hO
    have HP := Lib.hid hP
    cases ef : leftF nl no np s g so go zs with
    | none =>
      have E : Hid (leftInF nl no np s g so go zs = ([], 4)) := by rw [Hid, leftInF, q1, ef]; rfl
      rw [ef] at CL
      have CL := fun w hL hO hP => Lib.hid (CL w hL hO hP)
      clear c0 hL hO hP hg hgo hzb q1 q12 hg' hgo' hlen ef
      go_enter Try.func22, Try.ntmps22
      go_wp2_with (first
        | (go_at_call 35; ((with_reducible refine C0.out.mono ?_); rintro e w1 ⟨rfl, hb⟩))
        | (go_at_call 52; ((with_reducible refine (CL _ (HL.out.below hb) (HO.out.below hb) (HP.out.below hb)).out.mono ?_); rintro e w2 ⟨v, rfl, hO, hb2⟩)))
      exact bodyPost_ret (v := .tuple #[.slice none 0 0, .int .i64 4]) (by simp [results, Try.results22, go_sem]) rfl ⟨_, by rw [E.out], by rw [E.out]; exact own_nil _ _ _ _, below_then hb hb2⟩
    | some l =>
      have E : Hid (leftInF nl no np s g so go zs = (l, 0)) := by rw [Hid, leftInF, q1, ef]; rfl
      have hl := hlen l ef
      rw [ef] at CL
      have CL := fun w hL hO hP => Lib.hid (CL w hL hO hP)
      clear c0 hL hO hP hg hgo hzb q1 q12 hg' hgo' hlen ef
      go_enter Try.func22, Try.ntmps22
      go_wp2_with (first
        | (go_at_call 35; ((with_reducible refine C0.out.mono ?_); rintro e w1 ⟨rfl, hb⟩))
        | (go_at_call 52; ((with_reducible refine (CL _ (HL.out.below hb) (HO.out.below hb) (HP.out.below hb)).out.mono ?_); rintro e w2 ⟨v, rfl, hO, hb2⟩)))
      exact bodyPost_ret (v := .tuple #[v, .int .i64 0]) (by simp [results, Try.results22, go_sem]) rfl ⟨_, by rw [E.out], by rw [E.out, hl]; exact own_mono (hO l rfl) hb.size, below_then hb hb2⟩
set_option maxHeartbeats 1000000 in
theorem c_iServedBy (hL : LotsAt w A nl s g) (hO : LotsAt w B no so go) (hP : RdRow w C (nums .i64 zs)) (hz : zs.length = np) (hnl : nl ≤ 1048576) (hno : no ≤ 1048576) (hnp : np ≤ 1048576)
    (hg : ∀ j, j < nl → -32768 ≤ g j ∧ g j ≤ 32767) (hgo : ∀ j, j < no → -32768 ≤ go j ∧ go j ≤ 32767) (hzb : ∀ j, -9223372036854775808 ≤ gi zs j ∧ gi zs j ≤ 9223372036854775807) :
    Calls Try.prog 21 #[.slice A nl c, .slice B no c1, .slice C np c2] w fun e w' => e = .returned (.tuple #[.bool (servedF nl no np s g so go zs).1, .int .i64 (servedF nl no np s g so go zs).2]) ∧ Below w.heap.size w w' := by
  have c0 := c_areValid A B nl no c c1 s g so go w hL hO hnl hno hg hgo
  cases q1 : (lotsOk nl s g && ordersOk no so go)
  · have E : Hid (servedF nl no np s g so go zs = (false, 1)) := by rw [Hid, servedF, q1]; rfl
    rw [q1] at c0
    have C0 := Lib.hid c0
    clear c0 hL hO hP hg hgo hzb q1
    go_enter Try.func21, Try.ntmps21
    go_wp2_with (go_at_call 35; ((with_reducible refine C0.out.mono ?_); rintro e w1 ⟨rfl, hb⟩))
    go_ret2
    exact ⟨by rw [E.out]; rfl, by first | exact hb | (repeat (first | with_reducible exact Below.refl _ _ | with_reducible refine below_alloc ?_ _ | with_reducible refine below_drew ?_ | with_reducible refine below_drewN ?_ _ | with_reducible refine below_then ?_ (by assumption)))⟩
  · rw [q1] at c0
    have C0 := Lib.hid c0
    have q12 : lotsOk nl s g = true ∧ ordersOk no so go = true := by simpa only [Bool.and_eq_true] using q1
    obtain ⟨h6, hg'⟩ := lotsOk_bd q12.1
    obtain ⟨h7, hgo'⟩ := ordersOk_bd q12.2
    have CL := fun w hL hO hP => c_leftBy A B C nl no np c c1 c2 s g so go zs w hL hO hP hz h6 h7 hnp hg' hgo' hzb
    have hlen := fun l => leftF_len (l := l) (nl := nl) (no := no) (np := np) (s := s) (g := g) (so := so) (go := go) (zs := zs)
    have HL := Lib.hid hL
    have HO := Lib.hid hO
    have HP := Lib.hid hP
    cases ef : leftF nl no np s g so go zs with
    | none =>
      have E : Hid (servedF nl no np s g so go zs = (false, 0)) := by rw [Hid, servedF, q1, ef]; rfl
      rw [ef] at CL
      have CL := fun w hL hO hP => Lib.hid (CL w hL hO hP)
      clear c0 hL hO hP hg hgo hzb q1 q12 hg' hgo' hlen ef
      go_enter Try.func21, Try.ntmps21
      go_wp2_with (first
        | (go_at_call 35; ((with_reducible refine C0.out.mono ?_); rintro e w1 ⟨rfl, hb⟩))
        | (go_at_call 52; ((with_reducible refine (CL _ (HL.out.below hb) (HO.out.below hb) (HP.out.below hb)).out.mono ?_); rintro e w2 ⟨v, rfl, hO, hb2⟩)))
      go_ret2
      exact ⟨by rw [E.out]; rfl, by first | exact below_then hb hb2 | exact hb⟩
    | some l =>
      have E : Hid (servedF nl no np s g so go zs = (true, 0)) := by rw [Hid, servedF, q1, ef]; rfl
      have hl := hlen l ef
      rw [ef] at CL
      have CL := fun w hL hO hP => Lib.hid (CL w hL hO hP)
      clear c0 hL hO hP hg hgo hzb q1 q12 hg' hgo' hlen ef
      go_enter Try.func21, Try.ntmps21
      go_wp2_with (first
        | (go_at_call 35; ((with_reducible refine C0.out.mono ?_); rintro e w1 ⟨rfl, hb⟩))
        | (go_at_call 52; ((with_reducible refine (CL _ (HL.out.below hb) (HO.out.below hb) (HP.out.below hb)).out.mono ?_); rintro e w2 ⟨v, rfl, hO, hb2⟩)))
      go_ret2
      exact ⟨by rw [E.out]; rfl, by first | exact below_then hb hb2 | exact hb⟩
end
end Go.Proofs.Ytfdljhepfoppaaa
