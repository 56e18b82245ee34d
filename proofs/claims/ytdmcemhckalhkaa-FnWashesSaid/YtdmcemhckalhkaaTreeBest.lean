/- The best list of washes: the program's search. -/
import Derived.Test.YtdmcemhckalhkaaTreeFew
namespace Go.Proofs.Ytdmcemhckalhkaa
open Go.RowKit
set_option linter.unusedVariables false
set_option linter.unusedSimpArgs false
set_option maxRecDepth 100000

theorem own_ne_blk {w : World} {b e e' s n g : Nat} {v : Value} {xs : List Value} {cs : Array Value} (h : w.ownsRow b e s v n xs) (hb : w.heap[g]? = some (.cells cs e' (0, 0))) (he : e ≠ e') : v.ownBlock = none ∨ v.ownBlock ≠ some g := by
  rcases h.2 with ⟨rfl, _⟩ | ⟨g1, c, cur, rfl, _, hg, _⟩
  · exact .inl rfl
  · refine .inr ?_
    simp only [Value.ownBlock, ne_eq, Option.some.injEq]
    rintro rfl
    rw [hb] at hg
    simp only [Option.some.injEq, Obj.cells.injEq] at hg
    exact he hg.2.1.symm
def wcells (z : Nd × Value) : Array Value := #[z.2, .int .i16 z.1.c.a, .int .i16 z.1.c.b, .int .i8 z.1.c.c, .int .i8 z.1.c.d, .int .i8 z.1.c.e]
abbrev noCells : Array Value := #[.slice none 0 0, .int .i16 0, .int .i16 0, .int .i8 0, .int .i8 0, .int .i8 0]
/-- The clean nodes, the result's own place. -/
structure RB (w0 : World) (v : Value) (L : List (Nd × Value)) (w' : World) : Prop where
  o : w'.ownsRow w0.heap.size 69 6 v L.length (rowI L)
  r : Orders w' w0.heap.size L
  b : Below w0.heap.size w0 w'
  z : w'.heap[w0.heap.size + 1]? = some (.cells noCells 69 (0, 0))
section
variable {w0 w' w1 : World} {v : Value} {L : List (Nd × Value)}
theorem RB.below (h : RB w0 v L w') (hb : Below w'.heap.size w' w1) : RB w0 v L w1 := ⟨own_below h.o hb, h.r.below hb, below_then h.b hb, blk_below h.z hb⟩
theorem RB.drew (h : RB w0 v L w') : RB w0 v L w'.drew := ⟨own_drew h.o, h.r.drew, below_drew h.b, h.z⟩
theorem RB.tou {g : Nat} {cs : Array Value} (h : RB w0 v L w') (ht : Tou g w' w1) (hv : v.ownBlock ≠ some g) (hg : w'.heap[g]? = some (.cells cs 69 (0, 0))) (hz : g ≠ w0.heap.size + 1) (hlo : w0.heap.size ≤ g) : RB w0 v L w1 :=
  ⟨own_touN h.o ht (.inr hv), fun x hx => own_touN (h.r x hx) ht (own_ne_blk (h.r x hx) hg (by decide)), h.b.trans (ht.below hlo), blk_tou h.z ht (fun e => hz e.symm)⟩
end
/-- What the comparison holds on to. -/
abbrev TB (b1 b2 : Nat) (x y : Nd × Value) (w0 : World) (v : Value) (L : List (Nd × Value)) (w' : World) : Prop :=
  (w'.cell? ⟨b1, 0, none⟩ = some x.2 ∧ w'.cell? ⟨b1, 1, none⟩ = some (.int .i16 x.1.c.a) ∧ w'.cell? ⟨b1, 2, none⟩ = some (.int .i16 x.1.c.b) ∧ w'.cell? ⟨b1, 3, none⟩ = some (.int .i8 x.1.c.c) ∧ w'.cell? ⟨b1, 4, none⟩ = some (.int .i8 x.1.c.d) ∧ w'.cell? ⟨b1, 5, none⟩ = some (.int .i8 x.1.c.e) ∧
   w'.cell? ⟨b2, 0, none⟩ = some y.2 ∧ w'.cell? ⟨b2, 1, none⟩ = some (.int .i16 y.1.c.a) ∧ w'.cell? ⟨b2, 2, none⟩ = some (.int .i16 y.1.c.b) ∧ w'.cell? ⟨b2, 3, none⟩ = some (.int .i8 y.1.c.c) ∧ w'.cell? ⟨b2, 4, none⟩ = some (.int .i8 y.1.c.d) ∧ w'.cell? ⟨b2, 5, none⟩ = some (.int .i8 y.1.c.e)) ∧
  Hid (w'.heap[b1]? = some (.cells (wcells x) 69 (0, 0))) ∧ Hid (w'.heap[b2]? = some (.cells (wcells y) 69 (0, 0))) ∧ Hid (RB w0 v L w')
section
variable {b1 b2 : Nat} {x y : Nd × Value} {w0 w' w1 : World} {v : Value} {L : List (Nd × Value)}
theorem tb_mk (h1 : w'.heap[b1]? = some (.cells (wcells x) 69 (0, 0))) (h2 : w'.heap[b2]? = some (.cells (wcells y) 69 (0, 0))) (h3 : RB w0 v L w') : TB b1 b2 x y w0 v L w' :=
  ⟨⟨cell_of_row w' b1 0 _ _ _ h1, cell_of_row w' b1 1 _ _ _ h1, cell_of_row w' b1 2 _ _ _ h1, cell_of_row w' b1 3 _ _ _ h1, cell_of_row w' b1 4 _ _ _ h1, cell_of_row w' b1 5 _ _ _ h1, cell_of_row w' b2 0 _ _ _ h2, cell_of_row w' b2 1 _ _ _ h2, cell_of_row w' b2 2 _ _ _ h2, cell_of_row w' b2 3 _ _ _ h2, cell_of_row w' b2 4 _ _ _ h2, cell_of_row w' b2 5 _ _ _ h2⟩, h1, h2, h3⟩
theorem tb_below (hb : Below w'.heap.size w' w1) (h : TB b1 b2 x y w0 v L w') : TB b1 b2 x y w0 v L w1 := tb_mk (blk_below h.2.1.out hb) (blk_below h.2.2.1.out hb) (h.2.2.2.out.below hb)
theorem tb_own (hm : x ∈ L) (h : TB b1 b2 x y w0 v L w') : w'.ownsRow w0.heap.size 2 1 x.2 x.1.o.length (nums .i64 x.1.o) := h.2.2.2.out.r _ hm
theorem tb_own2 (hm : y ∈ L) (h : TB b1 b2 x y w0 v L w') : w'.ownsRow w0.heap.size 2 1 y.2 y.1.o.length (nums .i64 y.1.o) := h.2.2.2.out.r _ hm
theorem tb_R (h : TB b1 b2 x y w0 v L w') : RB w0 v L w' := h.2.2.2.out
theorem tb_1 (h : TB b1 b2 x y w0 v L w') : w'.heap[b1]? = some (.cells (wcells x) 69 (0, 0)) := h.2.1.out
theorem tb_2 (h : TB b1 b2 x y w0 v L w') : w'.heap[b2]? = some (.cells (wcells y) 69 (0, 0)) := h.2.2.1.out
end

set_option maxHeartbeats 8000000 in
theorem c_bestWashing (F : Nat) (he : ∀ args w, (callFunc F args).run Try.prog w = .ok (.enter F args) w) (f : Nd → Int)
    (hF : ∀ (x : Nd) (v : Value) (base : Nat) (w : World), x.c.Ok → x.o.length ≤ 4 → w.ownsRow base 2 1 v x.o.length (nums .i64 x.o) → Calls Try.prog F #[.agg #[v, .int .i16 x.c.a, .int .i16 x.c.b, .int .i8 x.c.c, .int .i8 x.c.d, .int .i8 x.c.e]] w fun e w' => e = .returned (.int .i64 (f x)) ∧ Below w.heap.size w w')
    (A : Option Addr) (a b c d e : Int) (n cap : Nat) (p q r : Nat → Int) (M : Int) (w : World) (ha : -32768 ≤ a ∧ a ≤ 32767) (hb : -32768 ≤ b ∧ b ≤ 32767) (h : ProgsAt w A n p q r) (hn : n ≤ 1048576) (hg : ∀ j, j < n → (-128 ≤ r j ∧ r j ≤ 127) ∧ (-128 ≤ p j ∧ p j ≤ 127) ∧ (-128 ≤ q j ∧ q j ≤ 127)) :
    Calls Try.prog 40 #[.agg #[.int .i16 a, .int .i16 b, .int .i8 c, .int .i8 d, .int .i8 e], .slice A n cap, .int .i64 M, .func (.func F) #[] #[]] w fun u w' => ∃ v, u = .returned (.tuple #[.agg (wcells ((bestR f a b c d e n p q r M).1, v)), .int .i64 (bestR f a b c d e n p q r M).2]) ∧ w'.ownsRow w.heap.size 2 1 v (bestR f a b c d e n p q r M).1.o.length (nums .i64 (bestR f a b c d e n p q r M).1.o) ∧ Below w.heap.size w w' := by
  have HB0 : Hid (Below w.heap.size w ((w.alloc (.cells #[.int .i16 a, .int .i16 b, .int .i8 c, .int .i8 d, .int .i8 e] 27 (0, 0))).alloc (.cells noCells 69 (0, 0)))) := below_alloc (below_alloc (Below.refl _ _) _) _
  have HC := Lib.hid (blk_alloc (heap_alloc_new w (.cells #[.int .i16 a, .int .i16 b, .int .i8 c, .int .i8 d, .int .i8 e] 27 (0, 0))) (.cells noCells 69 (0, 0)))
  have hZ := heap_alloc_new (w.alloc (.cells #[.int .i16 a, .int .i16 b, .int .i8 c, .int .i8 d, .int .i8 e] 27 (0, 0))) (.cells noCells 69 (0, 0))
  rw [World.size_alloc] at hZ
  have HZ := Lib.hid hZ
  have HIC : Hid ((Try.prog.info? 27).map (·.size) = some 5) := by show (Try.prog.info? 27).map (·.size) = some 5; kernel_rfl
  have HIW : Hid ((Try.prog.info? 69).map (·.size) = some 6) := by show (Try.prog.info? 69).map (·.size) = some 6; kernel_rfl
  have H := Lib.hid (h.below HB0.out)
  have CK := Lib.hid (c_washCode A a b c d e n cap p q r _ ha hb H.out hn hg)
  have HF := Lib.hid hF
  have one0 : Hid (noCells.all (·.oneCell') = true) := by simp [Hid, noCells, Value.oneCell']
  clear hZ h hg hF ha hb
  by_cases hz : askedF a b c d e n p q r = 0
  · rw [hz] at CK
    by_cases hi : inB M 0 4 = true
    · have hmz : mostF a b c d e n p q r M = 0 := by rw [mostF, if_pos hz, if_pos hi]
      have hmo := mostF_ok hmz
      have HMZ := Lib.hid hmz
      obtain ⟨m, rfl⟩ : ∃ m : Nat, M = (m : Int) := ⟨M.toNat, by have := hmo.hm; omega⟩
      have hm4 : m ≤ 4 := by have := hmo.hm; omega
      have HI := Lib.hid hi
      have CC := fun wq hq => Lib.hid (c_cleanings A n cap m p q r ⟨a, b, c, d, e⟩ wq hq hmo.hn hm4 hmo.x hmo.g)
      have CC := Lib.hid CC
      have HOK := Lib.hid (fun x hx => nodes_ok (x := x) hmo hx)
      have HLE := Lib.hid (nodes_len hmo)
      clear hz hi hmz hmo
      go_enter Try.func40, Try.ntmps40
      go_upto_if 32 with (first
        | (refine wpList_load_row rfl 27 (.tmp 4) rfl (w.heap.size) rfl 27 #[.int .i16 a, .int .i16 b, .int .i8 c, .int .i8 d, .int .i8 e] (0, 0) _ ?_ Try.underlying27 rfl HIC.out ?_; (with_reducible exact HC.out))
        | (go_at_call 31; ((with_reducible refine CK.out.mono ?_); rintro u w1 ⟨rfl, hb1⟩; have HC := Lib.hid (blk_below HC.out hb1); have HZ := Lib.hid (blk_below HZ.out hb1); have HB1 := Lib.hid (below_then HB0.out hb1); have HP := Lib.hid (H.out.below hb1); clear hb1))
        | (go_at_call 34; ((with_reducible refine (c_within _ _ _ _).mono ?_); rintro e w2 ⟨rfl, rfl⟩; rw [HI.out]))
        | (go_at_call 62; ((with_reducible refine ((CC.out _ HP.out).out).mono ?_); rintro u w2 ⟨L, v, rfl, hL, hO, hR, hb2⟩; obtain ⟨AL, cL, rfl, hAL⟩ := own_form hO; have HL := Lib.hid hL; have HRB : Hid (RB w (.slice AL L.length cL) L w2) := ⟨own_mono hO HB1.out.size, fun x hx => own_mono (hR x hx) HB1.out.size, below_then HB1.out hb2, blk_below HZ.out hb2⟩; clear hL hO hR hb2 HC HZ)))
      have HNL : Hid (L.map (·.1) = (nodesF a b c d e n p q r (m : Int)).filter isCl) := by rw [Hid, HL.out, nodesF, Int.toNat_natCast]
      have HOK2 : Hid (∀ z ∈ L, z.1.c.Ok ∧ z.1.o.length ≤ 4) := fun z hz => HOK.out z.1 (List.mem_filter.1 (by rw [← HNL.out]; exact List.mem_map_of_mem hz)).1
      have hLn : L.length ≤ 1555 := by
        have h1 := congrArg List.length HNL.out
        have h2 := List.length_filter_le isCl (nodesF a b c d e n p q r (m : Int))
        rw [List.length_map] at h1
        exact Nat.le_trans (h1 ▸ h2) HLE.out
      clear HL CC HP CK HC HZ HB0 HOK
      by_cases hL0 : L.length = 0
      · have E : Hid (bestR f a b c d e n p q r (m : Int) = (noNd, 6)) := bestR_none HMZ.out (by
          rw [← HNL.out, List.length_eq_zero_iff.1 hL0]; rfl)
        have dl : ((L.length : Int) == 0) = true := by rw [hL0]; rfl
        clear hL0
        go_wp2_with (refine ev_store_row rfl 69 (.tmp 8) (.tmp 33) rfl (w.heap.size + 1) noCells rfl rfl 69 noCells ?_ HIW.out (Eq.refl (6 : Nat)) one0.out ?_; (with_reducible exact HRB.out.z); intro w6 hblk ht; have HZ6 := Lib.hid hblk; clear hblk)
        refine bodyPost_ret (v := .tuple #[.agg noCells, .int .i64 6]) (results_ct rfl _ _ (w.heap.size + 1) 69 noCells (0, 0) _ rfl (by with_reducible exact HZ6.out) Try.underlying69 rfl HIW.out rfl) rfl ⟨.slice none 0 0, by rw [E.out]; rfl, by rw [E.out]; exact own_nil _ _ _ _, HRB.out.b.trans (ht.below (by omega))⟩
      · have dl : ((L.length : Int) == 0) = false := beq_eq_false_iff_ne.2 (by omega)
        obtain ⟨gL, rfl, _⟩ := hAL (by omega)
        obtain ⟨⟨z0, v0⟩, hL0'⟩ : ∃ z, L[0]? = some z := ⟨_, List.getElem?_eq_getElem (by omega)⟩
        have e0 := (own_get HRB.out.o (rowI_get hL0' (j := 0) rfl)).1
        have e1 := (own_get HRB.out.o (rowI_get hL0' (j := 1) rfl)).1
        have e2 := (own_get HRB.out.o (rowI_get hL0' (j := 2) rfl)).1
        have e3 := (own_get HRB.out.o (rowI_get hL0' (j := 3) rfl)).1
        have e4 := (own_get HRB.out.o (rowI_get hL0' (j := 4) rfl)).1
        have e5 := (own_get HRB.out.o (rowI_get hL0' (j := 5) rfl)).1
        simp only [Nat.zero_mul, Nat.zero_add] at e0 e1 e2 e3 e4 e5
        have HV0 := Lib.hid (own_slice (HRB.out.r _ (List.mem_of_getElem? hL0')))
        have HL0 := Lib.hid hL0'
        have n0 : (0 : Int) < (L.length : Int) := by omega
        have hneL : (Value.slice (some ⟨gL, 0, none⟩) L.length cL).ownBlock ≠ some w2.heap.size := fun e => by have := own_lo HRB.out.o (Nat.le_refl _) _ e; omega
        have hz2 := HRB.out.b.size
        have hz3 := blk_lt HRB.out.z
        clear hL0' hAL hL0
        go_wp2_with (refine ev_store_row rfl 69 (.tmp 12) (.tmp 36) rfl (w2.heap.size) #[v0, .int .i16 z0.c.a, .int .i16 z0.c.b, .int .i8 z0.c.c, .int .i8 z0.c.d, .int .i8 z0.c.e] rfl rfl 69 _ (heap_alloc_new w2 _) HIW.out (Eq.refl (6 : Nat)) (wc_one HV0.out _ _ _ _ _) ?_; intro w3 hblk ht; have hb := below_alloc_tou2 ht; clear ht; have HR3 := Lib.hid (HRB.out.below hb); have HB3 := Lib.hid hblk; clear hblk hb)
        have hbz : w2.heap.size ≠ w.heap.size + 1 := by omega
        generalize w2.heap.size = b2 at *
        clear e0 e1 e2 e3 e4 e5
        go_loopw [39] (fun i wr => ∃ (k : Nat) (z : Nd) (vz : Value), i = .int .i64 k ∧ k ≤ L.length ∧ Hid (L[bestK f (ndAt L) k]? = some (z, vz)) ∧ Hid (wr.heap[b2]? = some (.cells #[vz, .int .i16 z.c.a, .int .i16 z.c.b, .int .i8 z.c.c, .int .i8 z.c.d, .int .i8 z.c.e] 69 (0, 0))) ∧ Hid (RB w (.slice (some ⟨gL, 0, none⟩) L.length cL) L wr)) (fun i _ => L.length - (intOf i).toNat)
        case atStart => exact ⟨0, z0, v0, rfl, by omega, HL0, HB3, HR3⟩
        case round =>
          obtain ⟨k, z, vz, rfl, hk, hZk, hB, hR⟩ := hrel
          by_cases hlt : k < L.length
          · have d1 : decide ((k : Int) < (L.length : Int)) = true := by simp; omega
            have k0 : (0 : Int) ≤ (k : Int) := by omega
            have k1 : (k : Int) < (L.length : Int) := by omega
            obtain ⟨⟨x, vx⟩, hLk⟩ : ∃ z, L[k]? = some z := ⟨_, List.getElem?_eq_getElem hlt⟩
            have e0 := (own_get hR.out.o (rowI_get hLk (j := 0) rfl)).1
            have e1 := (own_get hR.out.o (rowI_get hLk (j := 1) rfl)).1
            have e2 := (own_get hR.out.o (rowI_get hLk (j := 2) rfl)).1
            have e3 := (own_get hR.out.o (rowI_get hLk (j := 3) rfl)).1
            have e4 := (own_get hR.out.o (rowI_get hLk (j := 4) rfl)).1
            have e5 := (own_get hR.out.o (rowI_get hLk (j := 5) rfl)).1
            simp only [Nat.add_zero] at e0 e1 e2 e3 e4 e5
            have hxm := List.mem_of_getElem? hLk
            have hzm := List.mem_of_getElem? hZk.out
            have HXM := Lib.hid hxm
            have HZM := Lib.hid hzm
            have HVX := Lib.hid (own_slice (hR.out.r _ hxm))
            obtain ⟨ox, lx⟩ := HOK2.out _ hxm
            obtain ⟨oz, lz⟩ := HOK2.out _ hzm
            have HX1 := Lib.hid (fun wq hq => HF.out x vx w.heap.size wq ox lx hq)
            have HX2 := Lib.hid (fun wq hq => HF.out z vz w.heap.size wq oz lz hq)
            have HBK : Hid (bestK f (ndAt L) (k + 1) = if f (ndAt L k) < f (ndAt L (bestK f (ndAt L) k)) then k else bestK f (ndAt L) k) := rfl
            rw [ndAt_get hLk, ndAt_get hZk.out] at HBK
            simp only at HBK
            have HLk := Lib.hid hLk
            have hbl := blk_lt hB.out
            clear hLk hxm hzm ox lx oz lz
            go_wp2_with (refine ev_store_row rfl 69 (.tmp 14) (.tmp 42) rfl (wr.heap.size) #[vx, .int .i16 x.c.a, .int .i16 x.c.b, .int .i8 x.c.c, .int .i8 x.c.d, .int .i8 x.c.e] rfl rfl 69 _ (heap_alloc_new wr _) HIW.out (Eq.refl (6 : Nat)) (wc_one HVX.out _ _ _ _ _) ?_; intro w4 hblk ht; have hb := below_alloc_tou2 ht; clear ht; have HR4 := Lib.hid (hR.out.below hb); have HB4 := Lib.hid (blk_below hB.out hb); have HX4 := Lib.hid hblk; clear hblk hb)
            have hnb : wr.heap.size ≠ b2 := by omega
            generalize wr.heap.size = b1 at *
            clear e0 e1 e2 e3 e4 e5
            by_cases hf : f x < f z
            · have dl2 : decide (f x < f z) = true := by simpa using hf
              have HK1 : Hid (bestK f (ndAt L) (k + 1) = k) := HBK.out.trans (if_pos hf)
              clear hf
              go_region_held3 (fun w' => (w'.cell? ⟨b1, 0, none⟩ = some vx ∧ w'.cell? ⟨b1, 1, none⟩ = some (.int .i16 x.c.a) ∧ w'.cell? ⟨b1, 2, none⟩ = some (.int .i16 x.c.b) ∧ w'.cell? ⟨b1, 3, none⟩ = some (.int .i8 x.c.c) ∧ w'.cell? ⟨b1, 4, none⟩ = some (.int .i8 x.c.d) ∧ w'.cell? ⟨b1, 5, none⟩ = some (.int .i8 x.c.e) ∧ w'.cell? ⟨b2, 0, none⟩ = some vz ∧ w'.cell? ⟨b2, 1, none⟩ = some (.int .i16 z.c.a) ∧ w'.cell? ⟨b2, 2, none⟩ = some (.int .i16 z.c.b) ∧ w'.cell? ⟨b2, 3, none⟩ = some (.int .i8 z.c.c) ∧ w'.cell? ⟨b2, 4, none⟩ = some (.int .i8 z.c.d) ∧ w'.cell? ⟨b2, 5, none⟩ = some (.int .i8 z.c.e)) ∧ Hid (w'.heap[b1]? = some (.cells (wcells (x, vx)) 69 (0, 0))) ∧ Hid (w'.heap[b2]? = some (.cells (wcells (z, vz)) 69 (0, 0))) ∧ Hid (RB w (.slice (some ⟨gL, 0, none⟩) L.length cL) L w'))
                (first
                  | exact tb_mk (x := (x, vx)) (y := (z, vz)) HX4.out HB4.out HR4.out.drew
                  | exact tb_below (x := (x, vx)) (y := (z, vz)) hb2 (by assumption)
                  | exact tb_below (x := (x, vx)) (y := (z, vz)) hb1 (by assumption))
                (first
                  | ((with_reducible refine (HX1.out _ (tb_own (x := (x, vx)) (y := (z, vz)) HXM.out (by assumption))).mono ?_); rintro e w5 ⟨rfl, hb1⟩)
                  | ((with_reducible refine (HX2.out _ (tb_own2 (x := (x, vx)) (y := (z, vz)) HZM.out (by assumption))).mono ?_); rintro e w6 ⟨rfl, hb2⟩))
              rename_i hHT
              have HT := (show TB b1 b2 (x, vx) (z, vz) w (.slice (some ⟨gL, 0, none⟩) L.length cL) L _ from hHT)
              go_wp2_with (first
                | (refine wpList_load_row rfl 69 (.tmp 14) rfl b1 rfl 69 #[vx, .int .i16 x.c.a, .int .i16 x.c.b, .int .i8 x.c.c, .int .i8 x.c.d, .int .i8 x.c.e] (0, 0) _ ?_ Try.underlying69 rfl HIW.out ?_; (exact tb_1 HT))
                | (refine ev_store_row rfl 69 (.tmp 12) (.tmp 50) rfl b2 #[vx, .int .i16 x.c.a, .int .i16 x.c.b, .int .i8 x.c.c, .int .i8 x.c.d, .int .i8 x.c.e] rfl rfl 69 #[vz, .int .i16 z.c.a, .int .i16 z.c.b, .int .i8 z.c.c, .int .i8 z.c.d, .int .i8 z.c.e] ?_ HIW.out (Eq.refl (6 : Nat)) (wc_one HVX.out _ _ _ _ _) ?_; (exact tb_2 HT); intro w8 hblk ht; have HR8 := Lib.hid ((tb_R HT).tou ht hneL (tb_2 HT) hbz hz2); have HB8 := Lib.hid hblk; clear hblk ht))
              go_roundw
              case rel => exact ⟨k + 1, x, vx, by go_num, by omega, by rw [Hid, HK1.out]; exact HLk.out, HB8, HR8⟩
              case measure => simp [intOf]; omega
            · have dl2 : decide (f x < f z) = false := by simpa using hf
              have HK1 : Hid (bestK f (ndAt L) (k + 1) = bestK f (ndAt L) k) := HBK.out.trans (if_neg hf)
              clear hf
              go_region_held3 (fun w' => (w'.cell? ⟨b1, 0, none⟩ = some vx ∧ w'.cell? ⟨b1, 1, none⟩ = some (.int .i16 x.c.a) ∧ w'.cell? ⟨b1, 2, none⟩ = some (.int .i16 x.c.b) ∧ w'.cell? ⟨b1, 3, none⟩ = some (.int .i8 x.c.c) ∧ w'.cell? ⟨b1, 4, none⟩ = some (.int .i8 x.c.d) ∧ w'.cell? ⟨b1, 5, none⟩ = some (.int .i8 x.c.e) ∧ w'.cell? ⟨b2, 0, none⟩ = some vz ∧ w'.cell? ⟨b2, 1, none⟩ = some (.int .i16 z.c.a) ∧ w'.cell? ⟨b2, 2, none⟩ = some (.int .i16 z.c.b) ∧ w'.cell? ⟨b2, 3, none⟩ = some (.int .i8 z.c.c) ∧ w'.cell? ⟨b2, 4, none⟩ = some (.int .i8 z.c.d) ∧ w'.cell? ⟨b2, 5, none⟩ = some (.int .i8 z.c.e)) ∧ Hid (w'.heap[b1]? = some (.cells (wcells (x, vx)) 69 (0, 0))) ∧ Hid (w'.heap[b2]? = some (.cells (wcells (z, vz)) 69 (0, 0))) ∧ Hid (RB w (.slice (some ⟨gL, 0, none⟩) L.length cL) L w'))
                (first
                  | exact tb_mk (x := (x, vx)) (y := (z, vz)) HX4.out HB4.out HR4.out.drew
                  | exact tb_below (x := (x, vx)) (y := (z, vz)) hb2 (by assumption)
                  | exact tb_below (x := (x, vx)) (y := (z, vz)) hb1 (by assumption))
                (first
                  | ((with_reducible refine (HX1.out _ (tb_own (x := (x, vx)) (y := (z, vz)) HXM.out (by assumption))).mono ?_); rintro e w5 ⟨rfl, hb1⟩)
                  | ((with_reducible refine (HX2.out _ (tb_own2 (x := (x, vx)) (y := (z, vz)) HZM.out (by assumption))).mono ?_); rintro e w6 ⟨rfl, hb2⟩))
              rename_i hHT
              have HT := (show TB b1 b2 (x, vx) (z, vz) w (.slice (some ⟨gL, 0, none⟩) L.length cL) L _ from hHT)
              have HR8 := Lib.hid (tb_R HT)
              have HB8 := Lib.hid (tb_2 HT)
              go_wp2
              go_roundw
              case rel => exact ⟨k + 1, z, vz, by go_num, by omega, by rw [Hid, HK1.out]; exact hZk.out, HB8, HR8⟩
              case measure => simp [intOf]; omega
          · obtain hkl : k = L.length := by omega
            subst hkl
            have d1 : decide ((L.length : Int) < (L.length : Int)) = false := by simp
            obtain ⟨_, hmin⟩ := bestK_eq (L := L.map (·.1)) (f := f) (g := ndAt L) (ndAt_all L) L.length (by omega) (by rw [List.length_map]; exact Nat.le_refl _)
            rw [← List.length_map (f := (·.1)), List.take_length, List.length_map, ndAt_get hZk.out, HNL.out] at hmin
            have E := Lib.hid (bestR_some (f := f) HMZ.out hmin)
            have hbl := blk_lt hB.out
            have HOZ := Lib.hid (hR.out.r _ (List.mem_of_getElem? hZk.out))
            have HVZ := Lib.hid (own_slice HOZ.out)
            clear hmin
            go_wp2_with (first
              | (refine wpList_load_row rfl 69 (.tmp 12) rfl b2 rfl 69 #[vz, .int .i16 z.c.a, .int .i16 z.c.b, .int .i8 z.c.c, .int .i8 z.c.d, .int .i8 z.c.e] (0, 0) _ ?_ Try.underlying69 rfl HIW.out ?_; (exact hB.out))
              | (refine ev_store_row rfl 69 (.tmp 8) (.tmp 52) rfl (w.heap.size + 1) #[vz, .int .i16 z.c.a, .int .i16 z.c.b, .int .i8 z.c.c, .int .i8 z.c.d, .int .i8 z.c.e] rfl rfl 69 noCells ?_ HIW.out (Eq.refl (6 : Nat)) (wc_one HVZ.out _ _ _ _ _) ?_; (exact hR.out.z); intro w8 hblk ht; have HB8 := Lib.hid hblk; clear hblk))
            have HO8 := Lib.hid (own_touN HOZ.out ht (own_ne_blk HOZ.out hR.out.z (by decide)))
            refine bodyPost_ret (v := .tuple #[.agg #[vz, .int .i16 z.c.a, .int .i16 z.c.b, .int .i8 z.c.c, .int .i8 z.c.d, .int .i8 z.c.e], .int .i64 0]) (results_ct rfl _ _ (w.heap.size + 1) 69 #[vz, .int .i16 z.c.a, .int .i16 z.c.b, .int .i8 z.c.c, .int .i8 z.c.d, .int .i8 z.c.e] (0, 0) _ rfl (by with_reducible exact HB8.out) Try.underlying69 rfl HIW.out rfl) rfl ⟨vz, by rw [E.out]; rfl, by rw [E.out]; exact HO8.out, hR.out.b.trans (ht.below (by omega))⟩
    · have E : Hid (bestR f a b c d e n p q r M = (noNd, 2)) := by
        have h2 : mostF a b c d e n p q r M = 2 := by rw [mostF, if_pos hz, if_neg hi]
        rw [Hid, bestR_no (by rw [h2]; omega), h2]
      have HI : Hid (inB M 0 4 = false) := Bool.eq_false_iff.2 hi
      clear hz hi
      go_enter Try.func40, Try.ntmps40
      go_wp2_with (first
        | (refine wpList_load_row rfl 27 (.tmp 4) rfl (w.heap.size) rfl 27 #[.int .i16 a, .int .i16 b, .int .i8 c, .int .i8 d, .int .i8 e] (0, 0) _ ?_ Try.underlying27 rfl HIC.out ?_; (with_reducible exact HC.out))
        | (go_at_call 31; ((with_reducible refine CK.out.mono ?_); rintro u w1 ⟨rfl, hb1⟩; have HC := Lib.hid (blk_below HC.out hb1); have HZ := Lib.hid (blk_below HZ.out hb1); have HB1 := Lib.hid (below_then HB0.out hb1); clear hb1))
        | (go_at_call 34; ((with_reducible refine (c_within _ _ _ _).mono ?_); rintro e w2 ⟨rfl, rfl⟩; rw [HI.out]))
        | (refine ev_store_row rfl 69 (.tmp 8) (.tmp 25) rfl (w.heap.size + 1) noCells rfl rfl 69 noCells ?_ HIW.out (Eq.refl (6 : Nat)) one0.out ?_; (with_reducible exact HZ.out); intro w6 hblk ht; have HZ6 := Lib.hid hblk; clear hblk))
      refine bodyPost_ret (v := .tuple #[.agg noCells, .int .i64 2]) (results_ct rfl _ _ (w.heap.size + 1) 69 noCells (0, 0) _ rfl (by with_reducible exact HZ6.out) Try.underlying69 rfl HIW.out rfl) rfl ⟨.slice none 0 0, by rw [E.out]; rfl, by rw [E.out]; exact own_nil _ _ _ _, HB1.out.trans (ht.below (by omega))⟩
  · have dz : (askedF a b c d e n p q r != 0) = true := by simpa using hz
    have E : Hid (bestR f a b c d e n p q r M = (noNd, askedF a b c d e n p q r)) := by
      have h2 : mostF a b c d e n p q r M = askedF a b c d e n p q r := by rw [mostF, if_neg hz]
      rw [Hid, bestR_no (by rw [h2]; exact hz), h2]
    clear hz
    go_enter Try.func40, Try.ntmps40
    go_wp2_with (first
      | (refine wpList_load_row rfl 27 (.tmp 4) rfl (w.heap.size) rfl 27 #[.int .i16 a, .int .i16 b, .int .i8 c, .int .i8 d, .int .i8 e] (0, 0) _ ?_ Try.underlying27 rfl HIC.out ?_; (with_reducible exact HC.out))
      | (go_at_call 31; ((with_reducible refine CK.out.mono ?_); rintro u w1 ⟨rfl, hb1⟩; have HC := Lib.hid (blk_below HC.out hb1); have HZ := Lib.hid (blk_below HZ.out hb1); have HB1 := Lib.hid (below_then HB0.out hb1); clear hb1))
      | (refine ev_store_row rfl 69 (.tmp 8) (.tmp 20) rfl (w.heap.size + 1) noCells rfl rfl 69 noCells ?_ HIW.out (Eq.refl (6 : Nat)) one0.out ?_; (with_reducible exact HZ.out); intro w6 hblk ht; have HZ6 := Lib.hid hblk; clear hblk))
    refine bodyPost_ret (v := .tuple #[.agg noCells, .int .i64 (askedF a b c d e n p q r)]) (results_ct rfl _ _ (w.heap.size + 1) 69 noCells (0, 0) _ rfl (by with_reducible exact HZ6.out) Try.underlying69 rfl HIW.out rfl) rfl ⟨.slice none 0 0, by rw [E.out]; rfl, by rw [E.out]; exact own_nil _ _ _ _, HB1.out.trans (ht.below (by omega))⟩
end Go.Proofs.Ytdmcemhckalhkaa
