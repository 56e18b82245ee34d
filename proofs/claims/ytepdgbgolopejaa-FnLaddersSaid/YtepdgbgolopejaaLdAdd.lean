/- A row added to a valid fabric: the program's AddRow. -/
import Derived.Test.YtepdgbgolopejaaLdLay
import Derived.Deep.DeepCutAuto
namespace Go.Proofs.Ytepdgbgolopejaa
open Go.RowKit
set_option linter.unusedVariables false
set_option linter.unusedSimpArgs false
set_option maxRecDepth 100000

theorem chain_of_bad : ∀ (L : List (List UInt8)) (loops : Int) (i : Nat), badG loops i L < 0 → chain loops L
  | [], _, _, _ => trivial
  | r :: rs, loops, i, h => by
    cases hr : rowS r with
    | none => rw [badG_none hr] at h; omega
    | some a =>
      by_cases hc : 30 ≤ i ∨ loops = 0 ∨ ¬ a.1 = loops ∨ 60 < a.2.1
      · rw [badG_yes hr hc] at h; omega
      · rw [badG_no hr hc] at h
        exact ⟨a, hr, by omega, by omega, by omega, chain_of_bad rs _ _ h⟩
theorem endW_wid {cast : Int} {L : List (List UInt8)} (h : 0 ≤ cast) : endW cast L = (widN cast L L.length : Int) := by
  rcases List.eq_nil_or_concat L with rfl | ⟨M, l, rfl⟩
  · simp only [endW, widN, List.length_nil]; omega
  · rw [List.concat_eq_append, endW_snoc, List.length_append]
    show (mkS l : Int) = (mkS ((M ++ [l]).getD M.length []) : Int)
    simp
theorem fabOk_snoc {cast : Int} {L : List (List UInt8)} {l : List UInt8} {a : Int × Int × Int} (hok : fabOk cast L = true) (h29 : L.length ≤ 29) (hr : rowS l = some a) (h0 : 0 < widN cast L L.length) (h1 : a.1 = (widN cast L L.length : Int)) (h2 : a.2.1 ≤ 60) : fabOk cast (L ++ [l]) = true := by
  have hV := fabV_of hok
  rw [fabOk, Bool.and_eq_true, decide_eq_true_eq] at hok
  have hc := chain_of_bad L cast 0 hok.2
  have he := endW_wid (cast := cast) (L := L) (by have := hV.csb; omega)
  exact fabOk_chain hV.csb.1 hV.csb.2 (by simp; omega) (chain_snoc L cast l a hc hr (by rw [he]; omega) (by rw [he]; exact h1) h2)
theorem c_cloneS (A : Option Addr) (c base : Nat) (L : List (List UInt8)) (w : World) (h : w.ownsRow base 9 1 (.slice A L.length c) L.length (strs L)) (hn : L.length ≤ 1048576) :
    Calls Try.prog 49 #[.slice A L.length c] w fun e w' => ∃ v, e = .returned v ∧ w'.ownsRow w.heap.size 9 1 v L.length (strs L) ∧ Below w.heap.size w w' := by
  rcases h.2 with ⟨e, h0⟩ | ⟨g, c1, cur, e, _⟩
  · have hL : L = [] := List.eq_nil_of_length_eq_zero h0
    subst hL
    simp only [Value.slice.injEq] at e
    obtain ⟨rfl, -, rfl⟩ := e
    exact (Try.slices_Clone_string_nil 0 0 w).mono fun e w' h => ⟨_, h.1, own_nil _ _ _ _, h.2 ▸ Below.refl _ _⟩
  · simp only [Value.slice.injEq] at e
    obtain ⟨rfl, -, rfl⟩ := e
    refine (Try.slices_Clone_string g 0 L.length c (L.map str) w (by simp) (by omega) (fun j hj => ?_)).mono fun e w1 h1 => ?_
    · rw [List.length_map] at hj
      have := (own_get h (strs_get hj)).1
      rw [Nat.zero_add, this]
      simp [hj, List.getD_eq_getElem?_getD]
    · obtain ⟨v, e1, e2, _, e3⟩ := h1
      refine ⟨v, e1, ?_, e3⟩
      rw [List.take_of_length_le (by simp), List.map_map] at e2
      exact e2
/-- What the region that adds keeps. -/
structure AW (w0 : World) (A : Option Addr) (n c : Nat) (X : List Value) (w' : World) : Prop where
  r : w'.heap[w0.heap.size + 1]? = some (.cells #[.int .i16 0, .slice none 0 0] 27 (0, 0))
  o : w'.ownsRow 0 9 1 (.slice A n c) n X
  z : ∀ k, (Value.slice A n c).ownBlock = some k → k < w0.heap.size
  b : Below w0.heap.size w0 w'
  lt : w0.heap.size + 2 ≤ w'.heap.size
abbrev AS (w0 : World) (cast : Int) (A : Option Addr) (n c : Nat) (X : List Value) (w' : World) : Prop :=
  (w'.cell? ⟨w0.heap.size, 0, none⟩ = some (.int .i16 cast) ∧ w'.cell? ⟨w0.heap.size, 1, none⟩ = some (.slice A n c)) ∧ Hid (AW w0 A n c X w')
section
variable {w0 w' w1 : World} {cast : Int} {A : Option Addr} {n c : Nat} {X : List Value}
theorem as_below (hb : Below w'.heap.size w' w1) (h : AS w0 cast A n c X w') : AS w0 cast A n c X w1 :=
  ⟨⟨(hb.cell (World.block_lt_of_cell? w' _ h.1.1)).trans h.1.1, (hb.cell (World.block_lt_of_cell? w' _ h.1.2)).trans h.1.2⟩, ⟨blk_below h.2.out.r hb, own_below h.2.out.o hb, h.2.out.z, below_then h.2.out.b hb, Nat.le_trans h.2.out.lt hb.size⟩⟩
theorem as_alloc (o : Obj) (h : AS w0 cast A n c X w') : AS w0 cast A n c X (w'.alloc o) := as_below (below_alloc (Below.refl _ _) _) h
theorem as_drew (h : AS w0 cast A n c X w') : AS w0 cast A n c X w'.drew := ⟨h.1, ⟨h.2.out.r, h.2.out.o, h.2.out.z, below_drew h.2.out.b, h.2.out.lt⟩⟩
theorem as_allocd (o : Obj) (h : AS w0 cast A n c X w'.drew) : AS w0 cast A n c X (w'.alloc o).drew := as_alloc o h
theorem as_grown {v : Value} {m : Nat} {xs : List Value} (hv : w'.ownsRow (w0.heap.size + 2) 9 1 v m xs) (hG : w'.grownBy w1 v.ownBlock) (h : AS w0 cast A n c X w') : AS w0 cast A n c X w1 := by
  have hb := below_grown (Below.refl (w0.heap.size + 2) w') hG hv (Nat.le_refl _) h.2.out.lt
  exact ⟨⟨(hb.cell (p := ⟨w0.heap.size, 0, none⟩) (by show w0.heap.size < _; omega)).trans h.1.1, (hb.cell (p := ⟨w0.heap.size, 1, none⟩) (by show w0.heap.size < _; omega)).trans h.1.2⟩, ⟨(hb.block _ (by omega)).trans h.2.out.r, h.2.out.o.kept hG (apart_of (B := w0.heap.size + 2) (fun k e => by have := h.2.out.z k e; omega) (own_up hv)).ne, h.2.out.z, h.2.out.b.trans (hb.mono (by omega)), Nat.le_trans h.2.out.lt hb.size⟩⟩
theorem as_set {g : Nat} (hg : w0.heap.size + 2 ≤ g) (ho : (Value.slice A n c).ownBlock ≠ some g) (i : Nat) (u : Value) (h : AS w0 cast A n c X w') : AS w0 cast A n c X (w'.setCell ⟨g, i, none⟩ u) := by
  have ht := Tou.setCell w' g i u
  have hb : Below (w0.heap.size + 2) w' (w'.setCell ⟨g, i, none⟩ u) := ht.below hg
  refine ⟨⟨(hb.cell (p := ⟨w0.heap.size, 0, none⟩) (by show w0.heap.size < _; omega)).trans h.1.1, (hb.cell (p := ⟨w0.heap.size, 1, none⟩) (by show w0.heap.size < _; omega)).trans h.1.2⟩, ⟨(hb.block _ (by omega)).trans h.2.out.r, h.2.out.o.kept (row := some g) ⟨ht.os, ht.tape, ht.output, by rw [ht.size]; exact Nat.le_refl _, fun k _ hk => ht.block k (fun he => hk (by rw [he]))⟩ (.inr ho), h.2.out.z, h.2.out.b.trans (hb.mono (by omega)), Nat.le_trans h.2.out.lt hb.size⟩⟩
theorem as_set2 {g : Nat} (hg : w0.heap.size + 2 ≤ g) (u v : Value) (h : AS w0 cast A n c X w') : AS w0 cast A n c X ((w'.setCell ⟨g, 0, none⟩ u).setCell ⟨g, 1, none⟩ v) :=
  have ho : (Value.slice A n c).ownBlock ≠ some g := fun e => by have := h.2.out.z g e; omega
  as_set hg ho 1 v (as_set hg ho 0 u h)
theorem as_W (h : AS w0 cast A n c X w') : AW w0 A n c X w' := h.2.out
end
theorem as_lit {w' : World} {g : Nat} {s : Value} (h : w'.heap[g]? = some (.cells #[s] 9 (0, 0))) : ∀ j u, ([s] : List Value)[j]? = some u → w'.cell? ((⟨g, 0, none⟩ : Addr).add j) = some u := fun j u hj => by
  cases j with
  | zero =>
    simp at hj
    subst hj
    rw [show (⟨g, 0, none⟩ : Addr).add 0 = ⟨g, 0, none⟩ by unfold Addr.add; split <;> simp_all]
    exact blk_cell h 0
  | succ j => simp at hj
theorem kn1 (w : World) (o : Obj) : (w.alloc o).heap[w.heap.size]? = some o := heap_alloc_new w o
theorem kn1d (w : World) (o : Obj) : (w.alloc o).drew.heap[w.heap.size]? = some o := heap_alloc_new w o
theorem kn2 (w : World) (o o' : Obj) : ((w.alloc o).alloc o').heap[w.heap.size]? = some o := blk_alloc (heap_alloc_new w o) o'
theorem kn2d (w : World) (o o' : Obj) : ((w.alloc o).alloc o').drew.heap[w.heap.size]? = some o := blk_alloc (heap_alloc_new w o) o'
theorem kn3 (w : World) (o o' : Obj) : ((w.alloc o').alloc o).heap[w.heap.size + 1]? = some o := by
  have := heap_alloc_new (w.alloc o') o
  rwa [World.size_alloc] at this
theorem kn3d (w : World) (o o' : Obj) : ((w.alloc o').alloc o).drew.heap[w.heap.size + 1]? = some o := kn3 w o o'
set_option maxHeartbeats 4000000 in
theorem c_iAddRow (cast : Int) (A : Option Addr) (c : Nat) (L : List (List UInt8)) (l : List UInt8) (w : World) (hO : w.ownsRow 0 9 1 (.slice A L.length c) L.length (strs L)) (hok : fabOk cast L = true) (hok2 : fabOk cast (L ++ [l]) = true) :
    Calls Try.prog 21 #[.agg #[.int .i16 cast, .slice A L.length c], .string (str l)] w fun e w' => ∃ A2 c2, e = .returned (.tuple #[.agg #[.int .i16 cast, .slice A2 (L.length + 1) c2], .int .i64 0]) ∧ Below w.heap.size w w' := by
  have hV := fabV_of hok
  have hV2 := fabV_of hok2
  have h30 := hV.num
  have hfab : ∀ (cc : Nat) (B : Option Addr) (w' : World) (b : Nat) (M : List (List UInt8)), FabV cast M → w'.ownsRow b 9 1 (.slice B M.length cc) M.length (strs M) → FabAt w' cast B cc M := fun cc B w' b M hM h => by
    refine ⟨by have := hM.num; omega, fun x hx => ?_, own_rd h, by have := hM.csb; omega⟩
    obtain ⟨k, hk, rfl⟩ := List.getElem_of_mem hx
    have := hM.len k hk
    simp [List.getD_eq_getElem?_getD, hk] at this
    omega
  have s1 := heap_alloc_new w (.cells #[.int .i16 cast, .slice A L.length c] 27 (0, 0))
  have s2 := heap_alloc_new (w.alloc (.cells #[.int .i16 cast, .slice A L.length c] 27 (0, 0))) (.cells #[.int .i16 0, .slice none 0 0] 27 (0, 0))
  rw [World.size_alloc] at s2
  have hb2 : Below w.heap.size w ((w.alloc (.cells #[.int .i16 cast, .slice A L.length c] 27 (0, 0))).alloc (.cells #[.int .i16 0, .slice none 0 0] 27 (0, 0))) := below_alloc (below_alloc (Below.refl _ _) _) _
  have HS : Hid (AS w cast A L.length c (strs L) ((w.alloc (.cells #[.int .i16 cast, .slice A L.length c] 27 (0, 0))).alloc (.cells #[.int .i16 0, .slice none 0 0] 27 (0, 0)))) :=
    ⟨⟨blk_cell (blk_alloc s1 _) 0, blk_cell (blk_alloc s1 _) 1⟩, ⟨s2, (hO.alloc _).alloc _, fun k e => (hO.lt k e).2, hb2, by simp⟩⟩
  have CV := Lib.hid (hok ▸ c_ValidFabric cast A c L _ (hfab c A _ 0 L hV HS.out.2.out.o))
  have CV2 : Hid (∀ (B : Option Addr) (cc b : Nat) (w' : World), w'.ownsRow b 9 1 (.slice B (L.length + 1) cc) (L.length + 1) (strs L ++ [.string (str l)]) → Calls Try.prog 26 #[.agg #[.int .i16 cast, .slice B (L.length + 1) cc]] w' fun e w1 => e = .returned (.bool true) ∧ Below w'.heap.size w' w1) := fun B cc b w' h => by
    have e : (L ++ [l]).length = L.length + 1 := by simp
    have h1 := hfab cc B w' b (L ++ [l]) hV2 (by rw [e, strs_snoc]; exact h)
    have := c_ValidFabric cast B cc (L ++ [l]) w' h1
    rwa [hok2, e] at this
  have CC := Lib.hid (fun w' h => c_cloneS A c 0 L w' h (by omega))
  have HI : Hid ((Try.prog.info? 27).map (·.size) = some 2) := by show (Try.prog.info? 27).map (·.size) = some 2; kernel_rfl
  have hm1 : Hid (L.length + 1 ≤ maxLen) := by rw [Hid]; simp only [maxLen]; omega
  have hm2 : Hid ((L.length + 1) * 16 ≤ 140737488355328) := by rw [Hid]; omega
  have y0 := HS.out.1.1
  have y1 := HS.out.1.2
  clear hO hok hok2 hV hV2 hfab s1 s2 hb2
  go_enter Try.func21, Try.ntmps21
  go_wp2_with (go_at_call 26; ((with_reducible refine CV.out.mono ?_); rintro e w1 ⟨rfl, hb⟩; replace HS := Lib.hid (as_below hb HS.out); replace y0 := HS.out.1.1; replace y1 := HS.out.1.2; clear hb))
  have HSd := as_drew HS.out
  have hz1 : w.heap.size + 2 ≤ w1.heap.size := HS.out.2.out.lt
  clear HS CV y0 y1
  go_cut [6] (fun p wx => ∃ g A2 c2, p = .pointer (some ⟨g, 0, none⟩) ∧ Hid (wx.heap[g]? = some (.cells #[.int .i16 cast, .slice A2 (L.length + 1) c2] 27 (0, 0))) ∧ Hid (wx.ownsRow (w.heap.size + 2) 9 1 (.slice A2 (L.length + 1) c2) (L.length + 1) (strs L ++ [.string (str l)])) ∧ Hid (AW w A L.length c (strs L) wx))
  case first =>
    (first
      | go_region_held3 (fun w' => (w'.cell? ⟨w.heap.size, 0, none⟩ = some (.int .i16 cast) ∧ w'.cell? ⟨w.heap.size, 1, none⟩ = some (.slice A L.length c)) ∧ Hid (AW w A L.length c (strs L) w'))
          (first
            | exact HSd
            | (with_reducible exact as_alloc _ (by assumption))
            | (with_reducible exact as_allocd _ (by assumption))
            | exact hS2
            | exact as_set2 (by omega) _ _ hS2
            | exact as_set2 (by omega) _ _ (by assumption)
            | exact as_below hb (by assumption))
          (first
            | (go_at_call 49; ((with_reducible refine (CC.out _ (as_W (by assumption)).o).mono ?_); rintro e w2 ⟨v2, rfl, hN, hb⟩; have HN := Lib.hid (own_mono hN (as_W (by assumption)).lt); have hz2 := (as_below (w0 := w) (cast := cast) (A := A) (n := L.length) (c := c) (X := strs L) hb (by assumption)).2.out.lt; (try (first | (have HK := Lib.hid (blk_below (kn3 _ (.cells #[.string (str l)] 9 (0, 0)) (.cells #[.int .i16 0, .slice none 0 0] 27 (0, 0))) hb)) | (have HK := Lib.hid (blk_below (kn3d _ (.cells #[.string (str l)] 9 (0, 0)) (.cells #[.int .i16 0, .slice none 0 0] 27 (0, 0))) hb)) | (have HK := Lib.hid (blk_below (kn2 _ (.cells #[.string (str l)] 9 (0, 0)) (.cells #[.int .i16 0, .slice none 0 0] 27 (0, 0))) hb)) | (have HK := Lib.hid (blk_below (kn2d _ (.cells #[.string (str l)] 9 (0, 0)) (.cells #[.int .i16 0, .slice none 0 0] 27 (0, 0))) hb)) | (have HK := Lib.hid (blk_below (kn1 _ (.cells #[.string (str l)] 9 (0, 0))) hb)) | (have HK := Lib.hid (blk_below (kn1d _ (.cells #[.string (str l)] 9 (0, 0))) hb)))); (try (first | (have HM := Lib.hid (blk_below (kn3 _ (.cells #[.int .i16 0, .slice none 0 0] 27 (0, 0)) (.cells #[.string (str l)] 9 (0, 0))) hb)) | (have HM := Lib.hid (blk_below (kn3d _ (.cells #[.int .i16 0, .slice none 0 0] 27 (0, 0)) (.cells #[.string (str l)] 9 (0, 0))) hb)) | (have HM := Lib.hid (blk_below (kn2 _ (.cells #[.int .i16 0, .slice none 0 0] 27 (0, 0)) (.cells #[.string (str l)] 9 (0, 0))) hb)) | (have HM := Lib.hid (blk_below (kn2d _ (.cells #[.int .i16 0, .slice none 0 0] 27 (0, 0)) (.cells #[.string (str l)] 9 (0, 0))) hb)) | (have HM := Lib.hid (blk_below (kn1 _ (.cells #[.int .i16 0, .slice none 0 0] 27 (0, 0))) hb)) | (have HM := Lib.hid (blk_below (kn1d _ (.cells #[.int .i16 0, .slice none 0 0] 27 (0, 0))) hb))))))
            | ((refine step_append_keep (by rfl) (.tmp 15) (.tmp 17) 25 (by rfl) 9 (.string (str [])) 1 16 Try.underlying25 (by kernel_rfl) rfl (by decide) (w.heap.size + 2) v2 L.length (strs L) (by rfl) ?_ _ 1 1 [.string (str l)] (by rfl) rfl ?_ (by simp [Value.oneCell']) (by decide) hm1.out hm2.out ?_ ?_); (· first | exact HN.out | exact HN.out.alloc _ | exact (HN.out.alloc _).alloc _); (· first | exact as_lit (HK.out) | exact as_lit (blk_alloc HK.out _) | exact as_lit (kn3 _ (.cells #[.string (str l)] 9 (0, 0)) (.cells #[.int .i16 0, .slice none 0 0] 27 (0, 0))) | exact as_lit (kn3d _ (.cells #[.string (str l)] 9 (0, 0)) (.cells #[.int .i16 0, .slice none 0 0] 27 (0, 0))) | exact as_lit (kn2 _ (.cells #[.string (str l)] 9 (0, 0)) (.cells #[.int .i16 0, .slice none 0 0] 27 (0, 0))) | exact as_lit (kn2d _ (.cells #[.string (str l)] 9 (0, 0)) (.cells #[.int .i16 0, .slice none 0 0] 27 (0, 0))) | exact as_lit (kn1 _ (.cells #[.string (str l)] 9 (0, 0))) | exact as_lit (kn1d _ (.cells #[.string (str l)] 9 (0, 0)))); (· exact (as_W (by assumption)).lt); intro g3 c3 w3 hN3 hG3 hat3 hold3; (first | have hS2 := as_grown HN.out hG3 (by assumption) | have hS2 := as_grown (HN.out.alloc _) hG3 (by assumption) | have hS2 := as_grown ((HN.out.alloc _).alloc _) hG3 (by assumption)); have HN3 := Lib.hid hN3; (try (first
                | (have HM := Lib.hid (blk_grownT HM.out HN.out (by decide) hG3))
                | (have HM := Lib.hid (blk_grownT (blk_alloc HM.out (.cells #[.string (str l)] 9 (0, 0))) (HN.out.alloc _) (by decide) hG3))
                | (have HM := Lib.hid (blk_grownT (kn1 _ (.cells #[.int .i16 0, .slice none 0 0] 27 (0, 0))) (HN.out.alloc _) (by decide) hG3))
                | (have HM := Lib.hid (blk_grownT (kn3 _ (.cells #[.int .i16 0, .slice none 0 0] 27 (0, 0)) (.cells #[.string (str l)] 9 (0, 0))) ((HN.out.alloc _).alloc _) (by decide) hG3))
                | (have HM := Lib.hid (blk_grownT (kn2 _ (.cells #[.int .i16 0, .slice none 0 0] 27 (0, 0)) (.cells #[.string (str l)] 9 (0, 0))) ((HN.out.alloc _).alloc _) (by decide) hG3)))); (try (have q0 := blk_cell HM.out 0; have q1 := blk_cell HM.out 1; have q2 := blk_frozen HM.out 0; have q3 := blk_frozen HM.out 1; (try simp only [World.size_alloc, World.size_drew] at q0 q1 q2 q3))); clear hN3))
      | fail)
    all_goals go_wp2_with fail
    all_goals go_meet
    all_goals (first
      | exact ⟨_, _, c3, rfl, kn1 w3 _, HN3.out.alloc _, (as_alloc _ hS2).2⟩
      | exact ⟨_, _, c3, rfl, blk_set (blk_set HM.out 0 _) 1 _, own_touT (own_touT HN3.out HM.out (by decide) (Tou.setCell _ _ _ _)) (blk_set HM.out 0 _) (by decide) (Tou.setCell _ _ _ _), (as_set2 (by omega) _ _ hS2).2⟩)
  case rest =>
    clear HSd
    obtain ⟨g, A2, c2, rfl, HG, HO, HW⟩ := hcut
    have n0 : wc.cell? ⟨g, 0, none⟩ = some (.int .i16 cast) := blk_cell HG.out 0
    have n1 : wc.cell? ⟨g, 1, none⟩ = some (.slice A2 (L.length + 1) c2) := blk_cell HG.out 1
    have HR := Lib.hid HW.out.r
    have HB := Lib.hid HW.out.b
    go_wp2_with (first
      | (go_at_call 26; ((with_reducible refine (CV2.out A2 c2 _ _ HO.out).mono ?_); rintro e w5 ⟨rfl, hb⟩; replace HG := Lib.hid (blk_below HG.out hb); replace HR := Lib.hid (blk_below HR.out hb); replace HB := Lib.hid (below_then HB.out hb); replace n0 : w5.cell? ⟨g, 0, none⟩ = some (.int .i16 cast) := blk_cell HG.out 0; replace n1 : w5.cell? ⟨g, 1, none⟩ = some (.slice A2 (L.length + 1) c2) := blk_cell HG.out 1; clear hb))
      | (refine ev_store_row rfl 27 (.tmp 4) (.tmp 24) rfl (w.heap.size + 1) #[.int .i16 cast, .slice A2 (L.length + 1) c2] rfl rfl 27 #[.int .i16 0, .slice none 0 0] HR.out HI.out rfl (fabC_one _ _ _ _) ?_; intro w6 hblk ht; have hR6 := Lib.hid hblk; have HB6 := Lib.hid (HB.out.trans (ht.below (Nat.le_succ _))); clear hblk ht))
    exact bodyPost_ret (v := .tuple #[.agg #[.int .i16 cast, .slice A2 (L.length + 1) c2], .int .i64 0]) (results_ct rfl _ _ (w.heap.size + 1) 27 #[.int .i16 cast, .slice A2 (L.length + 1) c2] (0, 0) _ rfl hR6.out Try.underlying27 rfl HI.out rfl) rfl ⟨A2, c2, rfl, HB6.out⟩
theorem fl_addRow {W : World} {G : Nat} {cast : Int} {A : Option Addr} {c : Nat} {L : List (List UInt8)} {R : List Lrw} {w : World} (h : FL W G cast A c L R w) (hok : fabOk cast L = true) {M : Nat} (hM : widN cast L L.length = M) (h0 : 0 < M) (h5 : L.length ≤ 5) :
    Calls Try.prog 21 #[.agg #[.int .i16 cast, .slice A L.length c], .string (str (List.replicate M 107))] w fun e w' => ∃ A2 c2, e = .returned (.tuple #[.agg #[.int .i16 cast, .slice A2 (L.length + 1) c2], .int .i64 0]) ∧ FL W G cast A c L R w' := by
  have h60 := (fabV_of hok).wid L.length (Nat.le_refl _)
  refine (c_iAddRow cast A c L _ w (own_mono h.o (Nat.zero_le _)) hok (fabOk_snoc hok (by omega) (rowS_rep M) (by omega) (by rw [hM]) (by dsimp only; omega))).mono ?_
  rintro e w' ⟨A2, c2, e1, hb⟩
  exact ⟨A2, c2, e1, h.below hb⟩
end Go.Proofs.Ytepdgbgolopejaa
