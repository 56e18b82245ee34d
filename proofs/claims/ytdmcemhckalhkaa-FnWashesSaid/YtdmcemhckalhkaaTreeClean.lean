/- All lists of washes behind which a cloth is clean: the program's walk. -/
import Derived.Test.YtdmcemhckalhkaaTreeImpl
namespace Go.Proofs.Ytdmcemhckalhkaa
open Go.RowKit
set_option linter.unusedVariables false
set_option linter.unusedSimpArgs false
set_option maxRecDepth 100000

def isCl (x : Nd) : Bool := x.c.c == 0
theorem below_alloc_tou2 {w w1 : World} {o : Obj} (ht : Tou w.heap.size (w.alloc o) w1) : Below w.heap.size w w1 := (below_alloc (Below.refl _ _) _).trans (ht.below (Nat.le_refl _))
theorem ne_grow {v : Value} {bw g n c B : Nat} (h : v.ownBlock ≠ some bw) (hat : v.ownBlock = some g ∨ B ≤ g) (hlt : bw < B) : (Value.slice (some ⟨g, 0, none⟩) n c).ownBlock ≠ some bw := by
  simp only [Value.ownBlock, ne_eq, Option.some.injEq]
  rintro rfl
  rcases hat with hat | hat
  · exact h hat
  · omega
theorem RI.ne {w0 w' : World} {vN vO vX : Value} {LN LO LX : List (Nd × Value)} (h : RI w0 vN vO vX LN LO LX w') : vN.ownBlock ≠ some w'.heap.size ∧ vO.ownBlock ≠ some w'.heap.size ∧ vX.ownBlock ≠ some w'.heap.size :=
  ⟨fun e => by have := own_lo h.oN (Nat.le_refl _) _ e; omega, fun e => by have := own_lo h.oO (Nat.le_refl _) _ e; omega, fun e => by have := own_lo h.oX (Nat.le_refl _) _ e; omega⟩
theorem cellsI_one (z : Nd × Value) (h : z.2.oneCell' = true) : ∀ u ∈ cellsI z, u.oneCell' = true := by
  intro u hu
  simp only [cellsI, List.mem_cons, List.not_mem_nil, or_false] at hu
  rcases hu with rfl | rfl | rfl | rfl | rfl | rfl <;> first | exact h | rfl
theorem wc_one {vo : Value} (h : ∃ A n c, vo = .slice A n c) (a b c d e : Int) : (#[vo, .int .i16 a, .int .i16 b, .int .i8 c, .int .i8 d, .int .i8 e] : Array Value).all (·.oneCell') = true := by
  obtain ⟨A, n, c, rfl⟩ := h
  simp [Value.oneCell']
theorem wc_oneL {vo : Value} (h : ∃ A n c, vo = .slice A n c) (a b c d e : Int) : ([vo, .int .i16 a, .int .i16 b, .int .i8 c, .int .i8 d, .int .i8 e] : List Value).all (·.oneCell') = true := by
  obtain ⟨A, n, c, rfl⟩ := h
  simp [Value.oneCell']
theorem own_slice {w : World} {b e s n : Nat} {v : Value} {xs : List Value} (h : w.ownsRow b e s v n xs) : ∃ A n c, v = .slice A n c := by
  obtain ⟨A, c, h, _⟩ := own_form h
  exact ⟨A, _, c, h⟩
theorem own_one {w : World} {b e s n : Nat} {v : Value} {xs : List Value} (h : w.ownsRow b e s v n xs) : v.oneCell' = true := by
  obtain ⟨A, c, rfl, _⟩ := own_form h
  rfl

set_option maxHeartbeats 8000000 in
theorem c_cleanings (A : Option Addr) (n cap M : Nat) (p q r : Nat → Int) (x0 : Cl) (w : World) (h : ProgsAt w A n p q r) (hn : n ≤ 6) (hM : M ≤ 4) (hx : x0.Ok)
    (hg : ∀ j, j < n → (0 ≤ p j ∧ p j ≤ 9) ∧ (0 ≤ q j ∧ q j ≤ 9) ∧ (0 ≤ r j ∧ r j ≤ 9)) :
    Calls Try.prog 62 #[.agg #[.int .i16 x0.a, .int .i16 x0.b, .int .i8 x0.c, .int .i8 x0.d, .int .i8 x0.e], .slice A n cap, .int .i64 (M : Int)] w fun u w' => ∃ (L : List (Nd × Value)) (v : Value), u = .returned v ∧ L.map (·.1) = (pre (kidsN n p q r) ⟨x0, []⟩ (M + 1)).filter isCl ∧ w'.ownsRow w.heap.size 69 6 v L.length (rowI L) ∧ Orders w' w.heap.size L ∧ Below w.heap.size w w' := by
  have H := Lib.hid h
  have HG := Lib.hid hg
  have HLEV := Lib.hid (lev_all (kids := kidsN n p q r) (r := ⟨x0, []⟩) (P := NdOk n) ⟨hx, rfl⟩ (kidsN_ok hg))
  have HPB := Lib.hid (fun m (hm : m ≤ 4) => pre_bd (kids := kidsN n p q r) (r := (⟨x0, []⟩ : Nd)) (fun x => by rw [kidsN_len]; exact hn) hm)
  have HLB := Lib.hid (fun m (hm : m ≤ 5) => lev_bd (kids := kidsN n p q r) (r := (⟨x0, []⟩ : Nd)) (fun x => by rw [kidsN_len]; exact hn) hm)
  obtain ⟨xa, xb, xc, xd, xe⟩ := x0
  have hO0 := own_of_row (base := w.heap.size) (n := 1) (size := 6) (heap_alloc_new (w.alloc (.cells #[.int .i16 xa, .int .i16 xb, .int .i8 xc, .int .i8 xd, .int .i8 xe] 27 (0, 0))) (.cells #[.slice none 0 0, .int .i16 xa, .int .i16 xb, .int .i8 xc, .int .i8 xd, .int .i8 xe] 69 (0, 0))) rfl (by simp) (by omega)
  simp only [World.size_alloc] at hO0
  have HR0 : Hid (RI w (.slice (some ⟨w.heap.size + 1, 0, none⟩) 1 1) (.slice none 0 0) (.slice none 0 0) [((⟨⟨xa, xb, xc, xd, xe⟩, []⟩ : Nd), Value.slice none 0 0)] [] [] ((w.alloc (.cells #[.int .i16 xa, .int .i16 xb, .int .i8 xc, .int .i8 xd, .int .i8 xe] 27 (0, 0))).alloc (.cells #[.slice none 0 0, .int .i16 xa, .int .i16 xb, .int .i8 xc, .int .i8 xd, .int .i8 xe] 69 (0, 0)))) :=
    ⟨hO0, own_nil _ _ _ _, own_nil _ _ _ _, fun y hy => by
      obtain rfl : y = _ := by simpa using hy
      exact own_nil _ _ _ _, fun _ hx => by simp at hx, fun _ hx => by simp at hx, below_alloc (below_alloc (Below.refl _ _) _) _, apart_nil _, apart_nil _, apart_nil _⟩
  clear h hg hx hO0
  go_enter Try.func62, Try.ntmps62
  go_wp2_with (first | (refine wpList_build1 rfl 92 69 (.tmp 16) rfl (#[.slice none 0 0, .int .i16 xa, .int .i16 xb, .int .i8 xc, .int .i8 xd, .int .i8 xe]) 6 (.agg #[.slice none 0 0, .int .i16 0, .int .i16 0, .int .i8 0, .int .i8 0, .int .i8 0]) rfl Try.underlying92 (by kernel_rfl) (by decide) (by decide) (rfl) ?_))
  go_loopw [9, 7, 8] (fun i vN vO wr => ∃ (m : Nat) (LN LO : List (Nd × Value)) (AN : Option Addr) (cN : Nat), i = .int .i64 m ∧ m ≤ M + 1 ∧ vN = .slice AN LN.length cN ∧ Hid (LN.map (·.1) = lev (kidsN n p q r) (⟨⟨xa, xb, xc, xd, xe⟩, []⟩ : Nd) m) ∧ Hid (LO.map (·.1) = (pre (kidsN n p q r) (⟨⟨xa, xb, xc, xd, xe⟩, []⟩ : Nd) m).filter isCl) ∧ Hid (RI w (.slice AN LN.length cN) vO (.slice none 0 0) LN LO [] wr)) (fun i _ _ _ => M + 1 - (intOf i).toNat)
  case atStart => exact ⟨0, [((⟨⟨xa, xb, xc, xd, xe⟩, []⟩ : Nd), Value.slice none 0 0)], [], some ⟨w.heap.size + 1, 0, none⟩, 1, rfl, by omega, rfl, rfl, rfl, HR0⟩
  case round =>
    obtain ⟨m, LN, LO, AN, cN, rfl, hm, rfl, hN, hO, hR⟩ := hrel
    by_cases hlt : m ≤ M
    · have d1 : decide ((m : Int) ≤ (M : Int)) = true := by simp; omega
      have hLN := congrArg List.length hN.out
      rw [List.length_map] at hLN
      have HLN := Lib.hid hLN
      have hLNb := HLB.out m (by omega)
      rw [← hLN] at hLNb
      clear hLN
      go_wp2
      go_loopw [25, 8, 10] (fun i vO vX wr => ∃ (j : Nat) (LO LX : List (Nd × Value)), i = .int .i64 j ∧ j ≤ LN.length ∧ Hid (LO.map (·.1) = (pre (kidsN n p q r) (⟨⟨xa, xb, xc, xd, xe⟩, []⟩ : Nd) m ++ (lev (kidsN n p q r) (⟨⟨xa, xb, xc, xd, xe⟩, []⟩ : Nd) m).take j).filter isCl) ∧ Hid (LX.map (·.1) = ((lev (kidsN n p q r) (⟨⟨xa, xb, xc, xd, xe⟩, []⟩ : Nd) m).take j).flatMap (kidsN n p q r)) ∧ Hid (RI w (.slice AN LN.length cN) vO vX LN LO LX wr)) (fun i _ _ _ => LN.length - (intOf i).toNat)
      case atStart => exact ⟨0, LO, [], rfl, by omega, by rw [Hid, List.take_zero, List.append_nil]; exact hO, rfl, hR⟩
      case round =>
        obtain ⟨j, LO, LX, rfl, hj, hO, hX, hR⟩ := hrel
        by_cases hlt2 : j < LN.length
        · have d2 : decide ((j : Int) < (LN.length : Int)) = true := by simp; omega
          have hjl : j < (lev (kidsN n p q r) (⟨⟨xa, xb, xc, xd, xe⟩, []⟩ : Nd) m).length := by rw [← HLN.out]; exact hlt2
          obtain ⟨⟨⟨x, od⟩, vo⟩, hLk⟩ : ∃ z, LN[j]? = some z := ⟨_, List.getElem?_eq_getElem hlt2⟩
          have hnd : (lev (kidsN n p q r) (⟨⟨xa, xb, xc, xd, xe⟩, []⟩ : Nd) m)[j]? = some ⟨x, od⟩ := by rw [← hN.out, List.getElem?_map, hLk]; rfl
          obtain ⟨hOk, hlen⟩ := HLEV.out m ⟨x, od⟩ (List.mem_of_getElem? hnd)
          have HND := Lib.hid hnd
          simp only at hOk hlen
          have HMem := Lib.hid (List.mem_of_getElem? hLk)
          obtain ⟨AN', cN', hv, hA⟩ := own_form hR.out.oN
          cases hv
          obtain ⟨gN, rfl, _⟩ := hA (by omega)
          have e0 := (own_get hR.out.oN (rowI_get hLk (j := 0) rfl)).1
          have e1 := (own_get hR.out.oN (rowI_get hLk (j := 1) rfl)).1
          have e2 := (own_get hR.out.oN (rowI_get hLk (j := 2) rfl)).1
          have e3 := (own_get hR.out.oN (rowI_get hLk (j := 3) rfl)).1
          have e4 := (own_get hR.out.oN (rowI_get hLk (j := 4) rfl)).1
          have e5 := (own_get hR.out.oN (rowI_get hLk (j := 5) rfl)).1
          have j0 : (0 : Int) ≤ (j : Int) := by omega
          have j1 : (j : Int) < (LN.length : Int) := by omega
          have HLEN := Lib.hid hlen
          have hod : od.length ≤ 4 := by omega
          clear hLk hnd hA hlen
          simp only [Nat.add_zero] at e0
          have hLOb : LO.length ≤ 1555 := by
            have h1 := congrArg List.length hO.out
            rw [List.length_map] at h1
            have h2 := List.length_filter_le isCl (pre (kidsN n p q r) (⟨⟨xa, xb, xc, xd, xe⟩, []⟩ : Nd) m ++ (lev (kidsN n p q r) (⟨⟨xa, xb, xc, xd, xe⟩, []⟩ : Nd) m).take j)
            have h3 := HPB.out m (by omega)
            simp only [pre, List.length_append, List.length_take] at h2 h3
            omega
          have HLX5 : Hid (∀ k, k ≤ n → (((lev (kidsN n p q r) (⟨⟨xa, xb, xc, xd, xe⟩, []⟩ : Nd) m).take j).flatMap (kidsN n p q r)).length + k ≤ 7776) := fun k hk => by
            have h1 := HLB.out (m + 1) (by omega)
            have h2 : lev (kidsN n p q r) (⟨⟨xa, xb, xc, xd, xe⟩, []⟩ : Nd) (m + 1) = ((lev (kidsN n p q r) (⟨⟨xa, xb, xc, xd, xe⟩, []⟩ : Nd) m).take (j + 1)).flatMap (kidsN n p q r) ++ ((lev (kidsN n p q r) (⟨⟨xa, xb, xc, xd, xe⟩, []⟩ : Nd) m).drop (j + 1)).flatMap (kidsN n p q r) := by
              rw [← List.flatMap_append, List.take_append_drop]; rfl
            rw [h2, List.length_append, List.take_add_one, HND.out, List.flatMap_append, List.length_append] at h1
            simp only [Option.toList, List.flatMap_cons, List.flatMap_nil, List.append_nil, kidsN_len] at h1
            omega
          have HIW : Hid ((Try.prog.info? 69).map (·.size) = some 6) := by show (Try.prog.info? 69).map (·.size) = some 6; kernel_rfl
          have HV1 := Lib.hid (own_slice (hR.out.rN _ HMem.out))
          have hne := hR.out.ne
          go_upto_if 32 with (first
            | (refine ev_store_row rfl 69 (.tmp 12) (.tmp 28) rfl (wr.heap.size) #[vo, .int .i16 x.a, .int .i16 x.b, .int .i8 x.c, .int .i8 x.d, .int .i8 x.e] rfl rfl 69 _ (heap_alloc_new wr _) HIW.out (Eq.refl (6 : Nat)) (wc_one HV1.out _ _ _ _ _) ?_; intro wb hblk ht; have hb := below_alloc_tou2 ht; clear ht; have HBW := Lib.hid hblk; have HR1 := Lib.hid (hR.out.below hb); have hbwl := blk_lt hblk; have y3 := cell_of_row wb wr.heap.size 3 _ _ _ hblk; clear hblk hb))
          clear e0 e1 e2 e3 e4 e5 y3
          generalize wr.heap.size = bw at *
          obtain ⟨hne1, hne2, hne3⟩ := hne
          have HTK : Hid ((pre (kidsN n p q r) (⟨⟨xa, xb, xc, xd, xe⟩, []⟩ : Nd) m ++ (lev (kidsN n p q r) (⟨⟨xa, xb, xc, xd, xe⟩, []⟩ : Nd) m).take (j + 1)).filter isCl = (pre (kidsN n p q r) (⟨⟨xa, xb, xc, xd, xe⟩, []⟩ : Nd) m ++ (lev (kidsN n p q r) (⟨⟨xa, xb, xc, xd, xe⟩, []⟩ : Nd) m).take j).filter isCl ++ [(⟨x, od⟩ : Nd)].filter isCl) := by
            rw [Hid, List.take_add_one, HND.out, ← List.append_assoc, List.filter_append (p := isCl) (_ ++ _)]; rfl
          have HXK : Hid (((lev (kidsN n p q r) (⟨⟨xa, xb, xc, xd, xe⟩, []⟩ : Nd) m).take (j + 1)).flatMap (kidsN n p q r) = ((lev (kidsN n p q r) (⟨⟨xa, xb, xc, xd, xe⟩, []⟩ : Nd) m).take j).flatMap (kidsN n p q r) ++ kidsN n p q r ⟨x, od⟩) := by
            rw [Hid, List.take_add_one, HND.out, List.flatMap_append]; simp
          have hz1 := HR1.out.b.size
          go_cut [8] (fun vO' wx => ∃ (LO2 : List (Nd × Value)) (vO2 : Value), vO' = vO2 ∧ Hid (LO2.map (·.1) = (pre (kidsN n p q r) (⟨⟨xa, xb, xc, xd, xe⟩, []⟩ : Nd) m ++ (lev (kidsN n p q r) (⟨⟨xa, xb, xc, xd, xe⟩, []⟩ : Nd) m).take (j + 1)).filter isCl) ∧ Hid (RI w (.slice (some ⟨gN, 0, none⟩) LN.length cN) vO2 u10 LN LO2 LX wx) ∧ Hid (wx.heap[bw]? = some (.cells #[vo, .int .i16 x.a, .int .i16 x.b, .int .i8 x.c, .int .i8 x.d, .int .i8 x.e] 69 (0, 0))))
          case first =>
            by_cases hc : x.c = 0
            · have dc : (x.c == 0) = true := by simpa using hc
              have HC1 : Hid ([(⟨x, od⟩ : Nd)].filter isCl = [⟨x, od⟩]) := by simp [Hid, isCl, hc]
              clear hc
              go_wp2_with (first
                | (refine wpList_load_row rfl 69 (.tmp 12) rfl bw rfl 69 #[vo, .int .i16 x.a, .int .i16 x.b, .int .i8 x.c, .int .i8 x.d, .int .i8 x.e] (0, 0) _ ?_ Try.underlying69 rfl HIW.out ?_; (with_reducible exact HBW.out))
                | (refine wpList_build1 rfl 92 69 (.tmp 34) rfl (#[vo, .int .i16 x.a, .int .i16 x.b, .int .i8 x.c, .int .i8 x.d, .int .i8 x.e]) 6 (.agg #[.slice none 0 0, .int .i16 0, .int .i16 0, .int .i8 0, .int .i8 0, .int .i8 0]) rfl Try.underlying92 (by kernel_rfl) (by decide) (by decide) (rfl) ?_)
                | (at_builtin; refine ap1 rfl (.tmp 33) (.tmp 35) 92 69 rfl ((.agg #[.slice none 0 0, .int .i16 0, .int .i16 0, .int .i8 0, .int .i8 0, .int .i8 0])) 6 32 (w.heap.size) Try.underlying92 (by kernel_rfl) rfl (by decide) u8 LO.length (rowI LO) [vo, .int .i16 x.a, .int .i16 x.b, .int .i8 x.c, .int .i8 x.d, .int .i8 x.e] rfl rfl (by simp) (rfl) (wc_oneL HV1.out _ _ _ _ _) HR1.out.oO hz1 (by omega) (by omega) ?_; intro g3 c3 w5 hown hg3 hat; have HRo := Lib.hid (RI.out (z := (⟨x, od⟩, vo)) HR1.out hg3 (hat.imp Eq.symm id) hown (HR1.out.rN _ HMem.out)); have HBo := Lib.hid ((hg3.block bw (blk_lt HBW.out) (fun e => hne2 e.symm)).trans HBW.out); clear hown hat hg3))
              go_meet
              exact ⟨LO ++ [(⟨x, od⟩, vo)], _, rfl, by rw [Hid, HTK.out, HC1.out, List.map_append, hO.out]; rfl, HRo, HBo⟩
            · have dc : (x.c == 0) = false := by simpa using hc
              have HC1 : Hid ([(⟨x, od⟩ : Nd)].filter isCl = []) := by simp [Hid, isCl, hc]
              clear hc
              go_wp2
              go_meet
              exact ⟨LO, _, rfl, by rw [Hid, HTK.out, HC1.out, List.append_nil, hO.out], HR1, HBW⟩
          case rest =>
            obtain ⟨LO2, vO2, hvO, hO2, hR2, hBW2⟩ := hcut
            clear HR1 HBW hR hne1 hne2 hz1 hbwl
            go_wp2
            go_loopw [39, 10] (fun ik vX wr => ∃ (k2 : Nat) (LX2 : List (Nd × Value)) (vX2 : Value), ik = .int .i64 k2 ∧ vX = vX2 ∧ k2 ≤ n ∧ Hid (LX2.map (·.1) = ((lev (kidsN n p q r) (⟨⟨xa, xb, xc, xd, xe⟩, []⟩ : Nd) m).take j).flatMap (kidsN n p q r) ++ (List.range k2).map (kidN p q r ⟨x, od⟩)) ∧ Hid (RI w (.slice (some ⟨gN, 0, none⟩) LN.length cN) vO2 vX2 LN LO2 LX2 wr) ∧ Hid (wr.heap[bw]? = some (.cells #[vo, .int .i16 x.a, .int .i16 x.b, .int .i8 x.c, .int .i8 x.d, .int .i8 x.e] 69 (0, 0))) ∧ vX2.ownBlock ≠ some bw) (fun ik _ _ => n - (intOf ik).toNat)
            case atStart => exact ⟨0, LX, _, rfl, rfl, by omega, by rw [Hid, hX.out]; simp, hR2, hBW2, hne3⟩
            case round =>
              obtain ⟨k2, LX2, vX2, rfl, hvX, hk2, hX2, hR3, hBW3, hne4⟩ := hrel
              have hXL := congrArg List.length hX2.out
              rw [List.length_map, List.length_append, List.length_map, List.length_range] at hXL
              have hXb := HLX5.out k2 hk2
              rw [← hXL] at hXb
              clear hXL
              by_cases hlt3 : k2 < n
              · have d3 : decide ((k2 : Int) < (n : Int)) = true := by simp; omega
                obtain ⟨ad, rfl, c0, c1, c2⟩ := (H.out.below hR3.out.b).at_ k2 hlt3
                have y0 : (0 : Int) ≤ (k2 : Int) := by omega
                have y1 : (k2 : Int) < (n : Int) := by omega
                have CW : Hid (∀ w1, Hid (Calls Try.prog 36 #[.agg #[.int .i16 x.a, .int .i16 x.b, .int .i8 x.c, .int .i8 x.d, .int .i8 x.e], .agg #[.int .i8 (p k2), .int .i8 (q k2), .int .i8 (r k2)]] w1 fun u w' => u = .returned (.agg #[.int .i16 (washC x (p k2) (q k2) (r k2)).a, .int .i16 (washC x (p k2) (q k2) (r k2)).b, .int .i8 (washC x (p k2) (q k2) (r k2)).c, .int .i8 (washC x (p k2) (q k2) (r k2)).d, .int .i8 (washC x (p k2) (q k2) (r k2)).e]) ∧ Below w1.heap.size w1 w')) := fun w1 => by
                  obtain ⟨g1', g2', g3'⟩ := HG.out k2 hlt3
                  exact c_washed x.a x.b x.c x.d x.e (p k2) (q k2) (r k2) w1 hOk.a.1 hOk.a.2 hOk.b.1 hOk.b.2 hOk.c hOk.d hOk.e g1' g2' g3'
                have HKD : Hid (⟨(washC x (p k2) (q k2) (r k2)), od ++ [(k2 : Int)]⟩ = kidN p q r ⟨x, od⟩ k2) := rfl
                generalize washC x (p k2) (q k2) (r k2) = y at *
                have CC := Lib.hid (fun w1 h1 => c_clone64 w.heap.size vo od od.length w1 h1 (by omega))
                have nB1 : Hid (od.length + 1 ≤ maxLen) := by rw [Hid]; simp only [maxLen]; omega
                have nB2 : Hid ((od.length + 1) * 8 ≤ 140737488355328) := by rw [Hid]; omega
                have nC1 : Hid (LX2.length + 1 ≤ maxLen) := by rw [Hid]; simp only [maxLen]; omega
                have nC2 : Hid ((LX2.length + 1) * 32 ≤ 140737488355328) := by rw [Hid]; omega
                go_upto_block 5 with fail
                go_cut [10] (fun v wx => ∃ (g c g2 c2 : Nat), v = .slice (some ⟨g, 0, none⟩) (LX2.length + 1) c ∧ Hid (RI w (.slice (some ⟨gN, 0, none⟩) LN.length cN) vO2 (.slice (some ⟨g, 0, none⟩) (LX2.length + 1) c) LN LO2 (LX2 ++ [((⟨y, od ++ [(k2 : Int)]⟩ : Nd), Value.slice (some ⟨g2, 0, none⟩) (od.length + 1) c2)]) wx) ∧ Hid (wx.heap[bw]? = some (.cells #[vo, .int .i16 x.a, .int .i16 x.b, .int .i8 x.c, .int .i8 x.d, .int .i8 x.e] 69 (0, 0))) ∧ (Value.slice (some ⟨g, 0, none⟩) (LX2.length + 1) c).ownBlock ≠ some bw)
                case first =>
                  go_wp2_with fail
                  have HBP := Lib.hid (heap_alloc_new wr (.cells #[.int .i8 (p k2), .int .i8 (q k2), .int .i8 (r k2)] 47 (0, 0)))
                  have HR4 := Lib.hid (hR3.out.alloc (.cells #[.int .i8 (p k2), .int .i8 (q k2), .int .i8 (r k2)] 47 (0, 0)))
                  have HBW4 := Lib.hid (blk_alloc hBW3.out (.cells #[.int .i8 (p k2), .int .i8 (q k2), .int .i8 (r k2)] 47 (0, 0)))
                  generalize wr.heap.size = bp at *
                  generalize wr.alloc (.cells #[.int .i8 (p k2), .int .i8 (q k2), .int .i8 (r k2)] 47 (0, 0)) = wp at *
                  clear c0 c1 c2 hR3 hBW3
                  go_region_held3 (fun w' => (w'.cell? ⟨bw, 0, none⟩ = some vo ∧ w'.cell? ⟨bw, 1, none⟩ = some (.int .i16 x.a) ∧ w'.cell? ⟨bw, 2, none⟩ = some (.int .i16 x.b) ∧ w'.cell? ⟨bw, 3, none⟩ = some (.int .i8 x.c) ∧ w'.cell? ⟨bw, 4, none⟩ = some (.int .i8 x.d) ∧ w'.cell? ⟨bw, 5, none⟩ = some (.int .i8 x.e) ∧ w'.cell? ⟨bp, 0, none⟩ = some (.int .i8 (p k2)) ∧ w'.cell? ⟨bp, 1, none⟩ = some (.int .i8 (q k2)) ∧ w'.cell? ⟨bp, 2, none⟩ = some (.int .i8 (r k2))) ∧
                      Hid (w'.heap[bw]? = some (.cells #[vo, .int .i16 x.a, .int .i16 x.b, .int .i8 x.c, .int .i8 x.d, .int .i8 x.e] 69 (0, 0))) ∧ Hid (w'.heap[bp]? = some (.cells #[.int .i8 (p k2), .int .i8 (q k2), .int .i8 (r k2)] 47 (0, 0))) ∧ Hid (RI w (.slice (some ⟨gN, 0, none⟩) LN.length cN) vO2 vX2 LN LO2 LX2 w'))
                    (first
                      | exact ti_mk (ti_drewB HBW4.out) (ti_drewB HBP.out) HR4.out.drew
                      | (with_reducible exact ti_alloc _ (by assumption))
                      | (with_reducible exact ti_allocd _ (by assumption))
                      | exact hS3
                      | exact hS2
                      | exact ti_below hb (by assumption))
                    (first
                      | (go_at_call 36; ((with_reducible refine ((CW.out _).out).mono ?_); rintro e w1 ⟨rfl, hb⟩; (try have HN2 := Lib.hid (own_below HN2.out hb))))
                      | (go_at_call 69; ((with_reducible refine (CC.out _ (ti_ord HMem.out (by assumption))).mono ?_); rintro e w1 ⟨v1, rfl, hN, hb⟩; have hA1 := Orders.apart (ti_R (by assumption)).rN (Nat.le_refl _) (own_up hN); have hA2 := Orders.apart (ti_R (by assumption)).rO (Nat.le_refl _) (own_up hN); have hA3 := Orders.apart (ti_R (by assumption)).rX (Nat.le_refl _) (own_up hN); have HN := Lib.hid (own_mono hN (ti_R (by assumption)).b.size); (try (first | (have HK := Lib.hid (blk_below HK.out hb)) | (have HK := Lib.hid (blk_below (heap_alloc_new _ (.cells #[.int .i64 (k2 : Int)] 2 (0, 0))) hb)) | (have HK := Lib.hid (blk_below (ti_drewB (heap_alloc_new _ (.cells #[.int .i64 (k2 : Int)] 2 (0, 0)))) hb))))))
                      | ((refine step_append_keep (by rfl) (.tmp 47) (.tmp 49) 32 (by rfl) 2 (.int .i64 0) 1 8 Try.underlying32 (by kernel_rfl) rfl (by decide) w.heap.size v1 od.length (nums .i64 od) (by rfl) ?_ _ 1 1 [.int .i64 (k2 : Int)] (by rfl) rfl ?_ (by simp [Value.oneCell']) (by decide) nB1.out nB2.out ?_ ?_); (· first | exact HN.out | exact HN.out.alloc _); (· first | exact ti_lit (heap_alloc_new _ _) | exact ti_lit HK.out); (· exact (ti_R (by assumption)).b.size); intro g2 c2 w2 hN2 hG2 hat2 hold2; (first | have hS2 := ti_list hG2 HN.out hA1 hA2 hA3 (by assumption) | have hS2 := ti_list hG2 (HN.out.alloc _) hA1 hA2 hA3 (by assumption)); have HN2 := Lib.hid hN2; clear hN2)
                      | ((refine step_append_keep (by rfl) (.tmp 44) (.tmp 56) 92 (by rfl) 69 (.agg #[.slice none 0 0, .int .i16 0, .int .i16 0, .int .i8 0, .int .i8 0, .int .i8 0]) 6 32 Try.underlying92 (by kernel_rfl) rfl (by decide) w.heap.size vX2 LX2.length (rowI LX2) (by rfl) (ti_R (by assumption)).oX _ 1 1 (cellsI (⟨y, od ++ [(k2 : Int)]⟩, .slice (some ⟨g2, 0, none⟩) (od.length + 1) c2)) (by rfl) rfl ?_ ?_ (by decide) nC1.out nC2.out (ti_R (by assumption)).b.size ?_); (· exact ti_lit (heap_alloc_new _ _)); (· exact cellsI_one _ rfl); intro g3 c3 w3 hO3 hG3 hat3 hold3; have hS3 := ti_next hne4 hG3 hold3 (by assumption); have hNE := ne_grow (n := LX2.length + 1) (c := c3) hne4 (hat3.imp id (fun e => Nat.le_of_eq e.symm)) (ti_bw (by assumption)); have HR5 := Lib.hid (RI.next (z := (⟨y, od ++ [(k2 : Int)]⟩, .slice (some ⟨g2, 0, none⟩) (od.length + 1) c2)) (ti_R (by assumption)) hG3 (hat3.imp id (fun e => Nat.le_of_eq e.symm)) hO3 (by have := HN2.out.alloc (.cells #[.slice (some ⟨g2, 0, none⟩) (od.length + 1) c2, .int .i16 y.a, .int .i16 y.b, .int .i8 y.c, .int .i8 y.d, .int .i8 y.e] 69 (0, 0)); rw [List.length_append, nums_snoc]; exact this)); clear hO3))
                  all_goals go_wp2_with fail
                  all_goals go_meet
                  all_goals exact ⟨g3, c3, g2, c2, rfl, HR5, hS3.2.1, hNE⟩
                case rest =>
                  obtain ⟨g3, c3, g2, c2, rfl, hR5, hBW5, hne5⟩ := hcut
                  have HX5 : Hid ((LX2 ++ [((⟨y, od ++ [(k2 : Int)]⟩ : Nd), Value.slice (some ⟨g2, 0, none⟩) (od.length + 1) c2)]).map (·.1) = ((lev (kidsN n p q r) (⟨⟨xa, xb, xc, xd, xe⟩, []⟩ : Nd) m).take j).flatMap (kidsN n p q r) ++ (List.range (k2 + 1)).map (kidN p q r ⟨x, od⟩)) := by
                    rw [Hid, kids_take, ← List.append_assoc, ← hX2.out, List.map_append, ← HKD.out]; rfl
                  go_wp2
                  go_roundw
                  case rel => exact ⟨k2 + 1, LX2 ++ [((⟨y, od ++ [(k2 : Int)]⟩ : Nd), Value.slice (some ⟨g2, 0, none⟩) (od.length + 1) c2)], _, by go_num, rfl, by omega, HX5, hR5, hBW5, hne5⟩
                  case measure => simp [intOf]; omega
              · obtain hk2n : k2 = n := by omega
                subst hk2n
                have d3 : decide ((k2 : Int) < (k2 : Int)) = false := by simp
                have HX3 : Hid (LX2.map (·.1) = ((lev (kidsN k2 p q r) (⟨⟨xa, xb, xc, xd, xe⟩, []⟩ : Nd) m).take (j + 1)).flatMap (kidsN k2 p q r)) := by rw [Hid, hX2.out, HXK.out]; rfl
                go_wp2
                go_roundw
                case rel => exact ⟨j + 1, LO2, LX2, by go_num, by omega, hO2, HX3, by subst hvO; subst hvX; exact hR3⟩
                case measure => simp [intOf]; omega
        · obtain hjl : j = LN.length := by omega
          subst hjl
          have d2 : decide ((LN.length : Int) < (LN.length : Int)) = false := by simp
          obtain ⟨AX, cX, hv, _⟩ := own_form hR.out.oX
          have hO2 : Hid (LO.map (·.1) = (pre (kidsN n p q r) (⟨⟨xa, xb, xc, xd, xe⟩, []⟩ : Nd) (m + 1)).filter isCl) := by
            have := hO.out
            rw [HLN.out, List.take_length] at this
            exact this
          have hX2 : Hid (LX.map (·.1) = lev (kidsN n p q r) (⟨⟨xa, xb, xc, xd, xe⟩, []⟩ : Nd) (m + 1)) := by
            have := hX.out
            rw [HLN.out, List.take_length] at this
            exact this
          subst hv
          go_wp2
          go_roundw
          case rel => exact ⟨m + 1, LX, LO, AX, cX, by go_num, by omega, rfl, hX2, hO2, hR.out.turn⟩
          case measure => simp [intOf]; omega
    · obtain rfl : m = M + 1 := by omega
      have d1 : decide (((M + 1 : Nat) : Int) ≤ (M : Int)) = false := by simp; omega
      go_wp2
      exact bodyPost_ret (v := u8) (by simp [results, Try.results62, go_sem]) rfl ⟨LO, u8, rfl, hO.out, hR.out.oO, hR.out.rO, hR.out.b⟩
end Go.Proofs.Ytdmcemhckalhkaa
