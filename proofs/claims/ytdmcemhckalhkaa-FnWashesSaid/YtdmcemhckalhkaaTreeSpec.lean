/- All cloths to which lists of washes lead: the reference's queue. -/
import Derived.Test.YtdmcemhckalhkaaTreeRows
import Derived.Test.YtdmcemhckalhkaaAppKeep
import Derived.Deep.RegionHeld3
import Derived.Deep.DeepCutAuto
import Derived.Deep.CutBlock
namespace Go.Proofs.Ytdmcemhckalhkaa
open Go.RowKit
set_option linter.unusedVariables false
set_option linter.unusedSimpArgs false
set_option maxRecDepth 100000

/-- What the region of a new node holds on to: the six cells of the node at hand, and the rows. -/
abbrev TS (w0 : World) (gN nN cN k : Nat) (x : Cl) (vo : Value) (L : List (Nd × Value)) (w' : World) : Prop :=
  (w'.cell? ⟨gN, k * 6, none⟩ = some (.int .i16 x.a) ∧ w'.cell? ⟨gN, k * 6 + 1, none⟩ = some (.int .i16 x.b) ∧ w'.cell? ⟨gN, k * 6 + 2, none⟩ = some (.int .i8 x.c) ∧ w'.cell? ⟨gN, k * 6 + 3, none⟩ = some (.int .i8 x.d) ∧ w'.cell? ⟨gN, k * 6 + 4, none⟩ = some (.int .i8 x.e) ∧ w'.cell? ⟨gN, k * 6 + 5, none⟩ = some vo) ∧
  Hid (w'.ownsRow w0.heap.size 78 6 (.slice (some ⟨gN, 0, none⟩) nN cN) nN (rowS L)) ∧ Hid (Orders w' w0.heap.size L) ∧ Hid (Below w0.heap.size w0 w')
section
variable {w0 w' w1 : World} {gN nN cN k : Nat} {x : Cl} {vo : Value} {L : List (Nd × Value)} {o : List Int}
theorem ts_mk (hk : L[k]? = some (⟨x, o⟩, vo)) (hO : w'.ownsRow w0.heap.size 78 6 (.slice (some ⟨gN, 0, none⟩) nN cN) nN (rowS L)) (hR : Orders w' w0.heap.size L) (hB : Below w0.heap.size w0 w') : TS w0 gN nN cN k x vo L w' :=
  ⟨⟨(own_get hO (rowS_get hk (j := 0) rfl)).1, (own_get hO (rowS_get hk (j := 1) rfl)).1, (own_get hO (rowS_get hk (j := 2) rfl)).1, (own_get hO (rowS_get hk (j := 3) rfl)).1, (own_get hO (rowS_get hk (j := 4) rfl)).1, (own_get hO (rowS_get hk (j := 5) rfl)).1⟩, hO, hR, hB⟩
theorem ts_below (hk : L[k]? = some (⟨x, o⟩, vo)) (hb : Below w'.heap.size w' w1) (h : TS w0 gN nN cN k x vo L w') : TS w0 gN nN cN k x vo L w1 :=
  ts_mk hk (own_below h.2.1.out hb) (h.2.2.1.out.below hb) (below_then h.2.2.2.out hb)
theorem ts_alloc (hk : L[k]? = some (⟨x, o⟩, vo)) (ob : Obj) (h : TS w0 gN nN cN k x vo L w') : TS w0 gN nN cN k x vo L (w'.alloc ob) := ts_below hk (below_alloc (Below.refl _ _) _) h
theorem ts_allocd (hk : L[k]? = some (⟨x, o⟩, vo)) (ob : Obj) (h : TS w0 gN nN cN k x vo L w'.drew) : TS w0 gN nN cN k x vo L (w'.alloc ob).drew := ts_alloc hk ob h
theorem ts_list {v : Value} {n : Nat} {ys : List Value} (hk : L[k]? = some (⟨x, o⟩, vo)) (hG : w'.grownBy w1 v.ownBlock) (hN : w'.ownsRow w0.heap.size 2 1 v n ys) (hA : ∀ y ∈ L, apart y.2 v) (h : TS w0 gN nN cN k x vo L w') : TS w0 gN nN cN k x vo L w1 :=
  ts_mk hk (row_grown h.2.1.out hN (by decide) hG) (h.2.2.1.out.list (N := 0) hA hG) (below_grown h.2.2.2.out hG hN (Nat.le_refl _) h.2.2.2.out.size)
theorem ts_row (hk : L[k]? = some (⟨x, o⟩, vo)) (hG : w'.grownBy w1 (Value.slice (some ⟨gN, 0, none⟩) nN cN).ownBlock) (hO : w1.ownsRow w0.heap.size 78 6 (.slice (some ⟨gN, 0, none⟩) nN cN) nN (rowS L)) (h : TS w0 gN nN cN k x vo L w') : TS w0 gN nN cN k x vo L w1 :=
  ts_mk hk hO (h.2.2.1.out.row h.2.1.out hG (by decide)) (below_grown h.2.2.2.out hG h.2.1.out (Nat.le_refl _) h.2.2.2.out.size)
theorem ts_B (h : TS w0 gN nN cN k x vo L w') : Below w0.heap.size w0 w' := h.2.2.2.out
theorem ts_O (h : TS w0 gN nN cN k x vo L w') : w'.ownsRow w0.heap.size 78 6 (.slice (some ⟨gN, 0, none⟩) nN cN) nN (rowS L) := h.2.1.out
theorem ts_R (h : TS w0 gN nN cN k x vo L w') : Orders w' w0.heap.size L := h.2.2.1.out
theorem ts_own (hk : L[k]? = some (⟨x, o⟩, vo)) (h : TS w0 gN nN cN k x vo L w') : w'.ownsRow w0.heap.size 2 1 vo o.length (nums .i64 o) := h.2.2.1.out _ (List.mem_of_getElem? hk)
end
theorem blk_drew {w : World} {g : Nat} {o : Obj} (h : w.heap[g]? = some o) : w.drew.heap[g]? = some o := h
theorem news_lit {w : World} {G : Nat} {l : List Value} {t : TypeId} (h : w.heap[G]? = some (.cells l.toArray t (0, 0))) : ∀ j y, l[j]? = some y → w.cell? ((⟨G, 0, none⟩ : Addr).add j) = some y := World.news_of_block (cs := l.toArray) h
theorem news_one {w : World} {G : Nat} {u : Value} {t : TypeId} (h : w.heap[G]? = some (.cells #[u] t (0, 0))) : ∀ j y, [u][j]? = some y → w.cell? ((⟨G, 0, none⟩ : Addr).add j) = some y := World.news_of_block (cs := #[u]) h

set_option maxHeartbeats 8000000 in
theorem c_l06All (gb n cap M : Nat) (p q r : Nat → Int) (x0 : Cl) (w : World) (h : ProgsAt w (some ⟨gb, 0, none⟩) n p q r) (hgb : 0 < n → gb < w.heap.size) (hn : n ≤ 6) (hM : M ≤ 4) (hx : x0.Ok)
    (hg : ∀ j, j < n → (0 ≤ p j ∧ p j ≤ 9) ∧ (0 ≤ q j ∧ q j ≤ 9) ∧ (0 ≤ r j ∧ r j ≤ 9)) :
    Calls Try.prog 44 #[.agg #[.int .i16 x0.a, .int .i16 x0.b, .int .i8 x0.c, .int .i8 x0.d, .int .i8 x0.e], .slice (some ⟨gb, 0, none⟩) n cap, .int .i64 (M : Int)] w fun u w' => ∃ (L : List (Nd × Value)) (g c : Nat), u = .returned (.slice (some ⟨g, 0, none⟩) L.length c) ∧ L.map (·.1) = pre (kidsN n p q r) ⟨x0, []⟩ (M + 1) ∧ w'.ownsRow w.heap.size 78 6 (.slice (some ⟨g, 0, none⟩) L.length c) L.length (rowS L) ∧ Orders w' w.heap.size L ∧ Filled L ∧ Below w.heap.size w w' := by
  have H := Lib.hid h
  have HGB := Lib.hid hgb
  have HG := Lib.hid hg
  have HLEV := Lib.hid (lev_all (kids := kidsN n p q r) (r := ⟨x0, []⟩) (P := NdOk n) ⟨hx, rfl⟩ (kidsN_ok hg))
  have HQL := Lib.hid (fun m j (hm : m ≤ M) => queue_le (kids := kidsN n p q r) (r := (⟨x0, []⟩ : Nd)) (j := j) hm)
  have hPB := pre_bd (kids := kidsN n p q r) (r := (⟨x0, []⟩ : Nd)) (fun x => by rw [kidsN_len]; exact hn) hM
  obtain ⟨xa, xb, xc, xd, xe⟩ := x0
  have hB0 : Below w.heap.size w (((w.alloc (.cells #[.int .i16 xa, .int .i16 xb, .int .i8 xc, .int .i8 xd, .int .i8 xe] 27 (0, 0))).alloc (.cells #[] 2 (0, 0))).alloc (.cells #[.int .i16 xa, .int .i16 xb, .int .i8 xc, .int .i8 xd, .int .i8 xe, .slice (some ⟨w.heap.size + 1, 0, none⟩) 0 0] 78 (0, 0))) := below_alloc (below_alloc (below_alloc (Below.refl _ _) _) _) _
  have hO0 := own_of_row (base := w.heap.size) (n := 1) (size := 6) (heap_alloc_new ((w.alloc (.cells #[.int .i16 xa, .int .i16 xb, .int .i8 xc, .int .i8 xd, .int .i8 xe] 27 (0, 0))).alloc (.cells #[] 2 (0, 0))) (.cells #[.int .i16 xa, .int .i16 xb, .int .i8 xc, .int .i8 xd, .int .i8 xe, .slice (some ⟨w.heap.size + 1, 0, none⟩) 0 0] 78 (0, 0))) rfl (by simp; omega) (by omega)
  have hE0 := own_empty (base := w.heap.size) (size := 1) (blk_alloc (heap_alloc_new (w.alloc (.cells #[.int .i16 xa, .int .i16 xb, .int .i8 xc, .int .i8 xd, .int .i8 xe] 27 (0, 0))) (.cells #[] 2 (0, 0))) (.cells #[.int .i16 xa, .int .i16 xb, .int .i8 xc, .int .i8 xd, .int .i8 xe, .slice (some ⟨w.heap.size + 1, 0, none⟩) 0 0] 78 (0, 0))) (by simp)
  simp only [World.size_alloc] at hO0 hE0
  have HB0 := Lib.hid hB0
  have HO0 := Lib.hid hO0
  have HE0 : Hid (Orders (((w.alloc (.cells #[.int .i16 xa, .int .i16 xb, .int .i8 xc, .int .i8 xd, .int .i8 xe] 27 (0, 0))).alloc (.cells #[] 2 (0, 0))).alloc (.cells #[.int .i16 xa, .int .i16 xb, .int .i8 xc, .int .i8 xd, .int .i8 xe, .slice (some ⟨w.heap.size + 1, 0, none⟩) 0 0] 78 (0, 0))) w.heap.size [((⟨⟨xa, xb, xc, xd, xe⟩, []⟩ : Nd), Value.slice (some ⟨w.heap.size + 1, 0, none⟩) 0 0)]) := fun y hy => by
    obtain rfl : y = _ := by simpa using hy
    exact hE0
  have HF0 : Hid (Filled [((⟨⟨xa, xb, xc, xd, xe⟩, []⟩ : Nd), Value.slice (some ⟨w.heap.size + 1, 0, none⟩) 0 0)]) := fun y hy => by
    obtain rfl : y = _ := by simpa using hy
    exact ⟨_, _, rfl⟩
  clear h hgb hg hx hB0 hO0 hE0
  generalize hP : pre (kidsN n p q r) (⟨⟨xa, xb, xc, xd, xe⟩, []⟩ : Nd) (M + 1) = PL at *
  have HP := Lib.hid hP
  clear hP
  go_enter Try.func44, Try.ntmps44
  go_wp2_with (first | (refine wpList_build1 rfl 75 78 (.tmp 12) rfl (#[.int .i16 xa, .int .i16 xb, .int .i8 xc, .int .i8 xd, .int .i8 xe, .slice (some ⟨w.heap.size + 1, 0, none⟩) 0 0]) 6 (.agg #[.int .i16 0, .int .i16 0, .int .i8 0, .int .i8 0, .int .i8 0, .slice none 0 0]) rfl Try.underlying75 (by kernel_rfl) (by decide) (by decide) (rfl) ?_))
  go_loopw [8, 7] (fun i v wr => ∃ (m j k : Nat) (L : List (Nd × Value)) (g c : Nat), i = .int .i64 k ∧ m ≤ M ∧ j ≤ (lev (kidsN n p q r) (⟨⟨xa, xb, xc, xd, xe⟩, []⟩ : Nd) m).length ∧ Hid (k = (pre (kidsN n p q r) (⟨⟨xa, xb, xc, xd, xe⟩, []⟩ : Nd) m).length + j) ∧ Hid (L.map (·.1) = queue (kidsN n p q r) (⟨⟨xa, xb, xc, xd, xe⟩, []⟩ : Nd) M m j) ∧ k ≤ L.length ∧ v = .slice (some ⟨g, 0, none⟩) L.length c ∧ Hid (wr.ownsRow w.heap.size 78 6 (.slice (some ⟨g, 0, none⟩) L.length c) L.length (rowS L)) ∧ Hid (Orders wr w.heap.size L) ∧ Hid (Filled L) ∧ Hid (Below w.heap.size w wr)) (fun i _ _ => PL.length - (intOf i).toNat)
  case atStart => exact ⟨0, 0, 0, [((⟨⟨xa, xb, xc, xd, xe⟩, []⟩ : Nd), Value.slice (some ⟨w.heap.size + 1, 0, none⟩) 0 0)], w.heap.size + 2, 1, rfl, by omega, by omega, rfl, by rw [Hid, queue_zero]; rfl, by simp, rfl, HO0, HE0, HF0, HB0⟩
  case round =>
    obtain ⟨m, j, k, L, gN, cN, rfl, hm, hj, hkk, hQ, hkL, rfl, hO, hR, hF, hB⟩ := hrel
    have hLQ : L.length = (queue (kidsN n p q r) (⟨⟨xa, xb, xc, xd, xe⟩, []⟩ : Nd) M m j).length := by rw [← hQ.out, List.length_map]
    have hLP : L.length ≤ PL.length := by have := HQL.out m j hm; rw [← hLQ] at this; exact this
    have HLQ := Lib.hid hLQ
    clear hLQ
    by_cases hlt : k < L.length
    · have d1 : decide ((k : Int) < (L.length : Int)) = true := by simp; omega
      obtain ⟨m1, j1, hm1, hj1, hk1, hq1⟩ := queue_norm hm hj hkk.out (by rw [← HLQ.out]; exact hlt)
      have hget := queue_get (most := M) hj1
      have HND := Lib.hid (HLEV.out m1 _ (List.getElem_mem hj1))
      have HST : Hid (m1 < M → queue (kidsN n p q r) (⟨⟨xa, xb, xc, xd, xe⟩, []⟩ : Nd) M m1 (j1 + 1) = queue (kidsN n p q r) (⟨⟨xa, xb, xc, xd, xe⟩, []⟩ : Nd) M m1 j1 ++ kidsN n p q r ((lev (kidsN n p q r) (⟨⟨xa, xb, xc, xd, xe⟩, []⟩ : Nd) m1)[j1])) := fun h => queue_step hj1 h
      rw [← hk1, ← hq1, ← hQ.out, List.getElem?_map] at hget
      rw [hq1] at hQ
      generalize (lev (kidsN n p q r) (⟨⟨xa, xb, xc, xd, xe⟩, []⟩ : Nd) m1)[j1] = nd at *
      obtain ⟨⟨nd', vo⟩, hLk, hnd⟩ := Option.map_eq_some_iff.1 hget
      simp only at hnd
      subst hnd
      obtain ⟨g1, c1, hvo⟩ := hF.out _ (List.mem_of_getElem? hLk)
      obtain ⟨hOk, hlen⟩ := HND.out
      simp only at hvo
      rw [hlen] at hvo
      obtain ⟨x, od⟩ := nd'
      simp only at hOk hlen
      subst hvo
      have HLk := Lib.hid hLk
      have HK1 := Lib.hid hk1
      have k0 : (0 : Int) ≤ (k : Int) := by omega
      have k1 : (k : Int) < (L.length : Int) := by omega
      clear hkk hget hj hk1 hq1 hLk
      by_cases hmM : m1 = M
      · subst hmM
        have HQ2 : Hid (L.map (·.1) = queue (kidsN n p q r) (⟨⟨xa, xb, xc, xd, xe⟩, []⟩ : Nd) m1 m1 (j1 + 1)) := by rw [Hid, hQ.out, queue_last]
        have e5 := (own_get hO.out (rowS_get HLk.out (j := 5) rfl)).1
        go_wp2
        go_roundw
        case rel => exact ⟨m1, j1 + 1, k + 1, L, gN, cN, by go_num, by omega, by omega, by rw [Hid, HK1.out]; omega, HQ2, by omega, rfl, hO, hR, hF, hB⟩
        case measure => simp [intOf]; omega
      · have dm : decide ((m1 : Int) = (M : Int)) = false := by simp; omega
        have dm' : ((m1 : Int) == (M : Int)) = false := by simp; omega
        have e5 := (own_get hO.out (rowS_get HLk.out (j := 5) rfl)).1
        have HQ2 := Lib.hid (HST.out (by omega))
        go_wp2
        clear e5
        obtain rfl : m1 = od.length := hlen.symm
        have hod : od.length ≤ 4 := by omega
        have nB1 : Hid (od.length + 1 ≤ maxLen) := by rw [Hid]; simp only [maxLen]; omega
        have nB2 : Hid ((od.length + 1) * 8 ≤ 140737488355328) := by rw [Hid]; omega
        have HLQ1 : Hid (∀ k2, k2 ≤ n → (queue (kidsN n p q r) (⟨⟨xa, xb, xc, xd, xe⟩, []⟩ : Nd) M od.length j1).length + k2 ≤ PL.length) := fun k2 hk2 => by
          have := HQL.out od.length (j1 + 1) hm1
          rw [HQ2.out, List.length_append, kidsN_len] at this
          omega
        go_loopw [9, 7] (fun iq v wr => ∃ (k2 : Nat) (L2 : List (Nd × Value)) (g c : Nat), iq = .int .i64 k2 ∧ k2 ≤ n ∧ Hid (L2.map (·.1) = queue (kidsN n p q r) (⟨⟨xa, xb, xc, xd, xe⟩, []⟩ : Nd) M od.length j1 ++ (List.range k2).map (kidN p q r ⟨x, od⟩)) ∧ Hid (L2[k]? = some (⟨x, od⟩, Value.slice (some ⟨g1, 0, none⟩) od.length c1)) ∧ v = .slice (some ⟨g, 0, none⟩) L2.length c ∧ Hid (wr.ownsRow w.heap.size 78 6 (.slice (some ⟨g, 0, none⟩) L2.length c) L2.length (rowS L2)) ∧ Hid (Orders wr w.heap.size L2) ∧ Hid (Filled L2) ∧ Hid (Below w.heap.size w wr)) (fun iq _ _ => n - (intOf iq).toNat)
        case atStart => exact ⟨0, L, gN, cN, rfl, by omega, by rw [Hid, hQ.out]; simp, HLk, rfl, hO, hR, hF, hB⟩
        case round =>
          obtain ⟨k2, L2, gM, cM, rfl, hk2, hQ2, HLk2, rfl, hO2, hR2, hF2, hB2⟩ := hrel
          have hL2 : L2.length = (queue (kidsN n p q r) (⟨⟨xa, xb, xc, xd, xe⟩, []⟩ : Nd) M od.length j1).length + k2 := by
            have := congrArg List.length hQ2.out
            simpa using this
          have hL2P := HLQ1.out k2 hk2
          have hkL2 : k < L2.length := (List.getElem?_eq_some_iff.1 HLk2.out).1
          by_cases hlt2 : k2 < n
          · have d2 : decide ((k2 : Int) < (n : Int)) = true := by simp; omega
            have y0 : (0 : Int) ≤ (k2 : Int) := by omega
            have y1 : (k2 : Int) < (n : Int) := by omega
            have z1 : (k : Int) < (L2.length : Int) := by omega
            have CW : Hid (∀ w1, Below w.heap.size w w1 → Hid (Calls Try.prog 39 #[.agg #[.int .i16 x.a, .int .i16 x.b, .int .i8 x.c, .int .i8 x.d, .int .i8 x.e], .pointer (some ⟨gb, k2 * 3, none⟩)] w1 fun u w' => u = .returned (.agg #[.int .i16 (washC x (p k2) (q k2) (r k2)).a, .int .i16 (washC x (p k2) (q k2) (r k2)).b, .int .i8 (washC x (p k2) (q k2) (r k2)).c, .int .i8 (washC x (p k2) (q k2) (r k2)).d, .int .i8 (washC x (p k2) (q k2) (r k2)).e]) ∧ Below w1.heap.size w1 w')) := fun w1 hb1 => by
              obtain ⟨g1', g2', g3'⟩ := HG.out k2 hlt2
              exact c_l06Washed gb (k2 * 3) x.a x.b x.c x.d x.e (p k2) (q k2) (r k2) w1 (progAt_of (H.out.below hb1) hlt2) (Nat.lt_of_lt_of_le (HGB.out (by omega)) hb1.size) hOk.a.1 hOk.a.2 hOk.b.1 hOk.b.2 hOk.c hOk.d hOk.e g1' g2' g3'
            have HKD : Hid (⟨(washC x (p k2) (q k2) (r k2)), od ++ [(k2 : Int)]⟩ = kidN p q r ⟨x, od⟩ k2) := rfl
            generalize washC x (p k2) (q k2) (r k2) = y at *
            have CO := Lib.hid (fun w1 h1 => c_l00Own w.heap.size g1 c1 od od.length w1 h1 (by omega))
            have nC1 : Hid (L2.length + 1 ≤ maxLen) := by rw [Hid]; simp only [maxLen]; omega
            have nC2 : Hid ((L2.length + 1) * 32 ≤ 140737488355328) := by rw [Hid]; omega
            generalize hnL : L2.length = nL at *
            have HnL := Lib.hid hnL
            clear hnL hL2
            go_upto_block 3 with fail
            go_cut [7] (fun v wx => ∃ (g c g2 c2 : Nat), v = .slice (some ⟨g, 0, none⟩) (nL + 1) c ∧ Hid (wx.ownsRow w.heap.size 78 6 (.slice (some ⟨g, 0, none⟩) (nL + 1) c) (nL + 1) (rowS L2 ++ cellsS (⟨y, od ++ [(k2 : Int)]⟩, .slice (some ⟨g2, 0, none⟩) (od.length + 1) c2))) ∧ Hid (Orders wx w.heap.size (L2 ++ [((⟨y, od ++ [(k2 : Int)]⟩ : Nd), Value.slice (some ⟨g2, 0, none⟩) (od.length + 1) c2)])) ∧ Hid (Below w.heap.size w wx))
            case first =>
              go_wp2_with fail
              go_region_held3 (fun w' => (w'.cell? ⟨gM, k * 6, none⟩ = some (.int .i16 x.a) ∧ w'.cell? ⟨gM, k * 6 + 1, none⟩ = some (.int .i16 x.b) ∧ w'.cell? ⟨gM, k * 6 + 2, none⟩ = some (.int .i8 x.c) ∧ w'.cell? ⟨gM, k * 6 + 3, none⟩ = some (.int .i8 x.d) ∧ w'.cell? ⟨gM, k * 6 + 4, none⟩ = some (.int .i8 x.e) ∧ w'.cell? ⟨gM, k * 6 + 5, none⟩ = some (.slice (some ⟨g1, 0, none⟩) od.length c1)) ∧
                  Hid (w'.ownsRow w.heap.size 78 6 (.slice (some ⟨gM, 0, none⟩) nL cM) nL (rowS L2)) ∧ Hid (Orders w' w.heap.size L2) ∧ Hid (Below w.heap.size w w'))
                (first
                  | exact ts_mk HLk2.out (own_drew hO2.out) hR2.out.drew (below_drew hB2.out)
                  | (with_reducible exact ts_alloc HLk2.out _ (by assumption))
                  | (with_reducible exact ts_allocd HLk2.out _ (by assumption))
                  | exact hS3
                  | exact hS2
                  | exact ts_below HLk2.out hb (by assumption))
                (first
                  | (go_at_call 39; ((with_reducible refine ((CW.out _ (ts_B (by assumption))).out).mono ?_); rintro e w1 ⟨rfl, hb⟩; (try (first | (have HN := Lib.hid (own_below HN.out hb)) | (have HN := Lib.hid (own_below (HN.out.alloc _) hb)))); (try (first | (have HK := Lib.hid (blk_below HK.out hb)) | (have HK := Lib.hid (blk_below (heap_alloc_new _ (.cells #[.int .i64 (k2 : Int)] 2 (0, 0))) hb)) | (have HK := Lib.hid (blk_below (blk_drew (heap_alloc_new _ (.cells #[.int .i64 (k2 : Int)] 2 (0, 0)))) hb)))); (try have HN2 := Lib.hid (own_below HN2.out hb))))
                  | (go_at_call 63; ((with_reducible refine (CO.out _ (ts_own HLk2.out (by assumption))).mono ?_); rintro e w1 ⟨v1, rfl, hN, hb⟩; have hAP := Orders.apart (ts_R (by assumption)) (Nat.le_refl _) (own_up hN); have HN := Lib.hid (own_mono hN (ts_B (by assumption)).size); (try (first | (have HK := Lib.hid (blk_below HK.out hb)) | (have HK := Lib.hid (blk_below (heap_alloc_new _ (.cells #[.int .i64 (k2 : Int)] 2 (0, 0))) hb)) | (have HK := Lib.hid (blk_below (blk_drew (heap_alloc_new _ (.cells #[.int .i64 (k2 : Int)] 2 (0, 0)))) hb)))); (try have HN2 := Lib.hid (own_below HN2.out hb))))
                  | ((refine step_append_keep (by rfl) (.tmp 49) (.tmp 51) 32 (by rfl) 2 (.int .i64 0) 1 8 Try.underlying32 (by kernel_rfl) rfl (by decide) w.heap.size v1 od.length (nums .i64 od) (by rfl) ?_ _ 1 1 [.int .i64 (k2 : Int)] (by rfl) rfl ?_ (by simp [Value.oneCell']) (by decide) nB1.out nB2.out ?_ ?_); (· first | exact HN.out | exact HN.out.alloc _); (· first | exact news_one (heap_alloc_new _ _) | exact news_one HK.out); (· exact (ts_B (by assumption)).size); intro g2 c2 w2 hN2 hG2 hat2 hold2; (first | have hS2 := ts_list HLk2.out hG2 HN.out hAP (by assumption) | have hS2 := ts_list HLk2.out hG2 (HN.out.alloc _) hAP (by assumption)); have HN2 := Lib.hid hN2; clear hN2)
                  | ((refine step_append_keep (by rfl) (.tmp 34) (.tmp 54) 75 (by rfl) 78 (.agg #[.int .i16 0, .int .i16 0, .int .i8 0, .int .i8 0, .int .i8 0, .slice none 0 0]) 6 32 Try.underlying75 (by kernel_rfl) rfl (by decide) w.heap.size (.slice (some ⟨gM, 0, none⟩) nL cM) nL (rowS L2) (by rfl) (ts_O (by assumption)) _ 1 1 (cellsS (⟨y, od ++ [(k2 : Int)]⟩, .slice (some ⟨g2, 0, none⟩) (od.length + 1) c2)) (by rfl) rfl ?_ ?_ (by decide) nC1.out nC2.out (ts_B (by assumption)).size ?_); (· exact news_lit (heap_alloc_new _ _)); (· simp [cellsS, Value.oneCell']); intro g3 c3 w3 hO3 hG3 hat3 hold3; have hS3 := ts_row HLk2.out hG3 hold3 (by assumption); have HO3 := Lib.hid hO3; have HN3 := row_grown (HN2.out.alloc _) (ts_O (by assumption)) (by decide) hG3; clear hO3))
              all_goals go_wp2_with fail
              all_goals go_meet
              all_goals exact ⟨g3, c3, g2, c2, rfl, HO3.out, Orders.snoc (ts_R (by assumption)) (by have := HN3; rw [List.length_append, nums_snoc]; exact this), ts_B (by assumption)⟩
            case rest =>
              obtain ⟨g3, c3, g2, c2, rfl, hO3, hR3, hB3⟩ := hcut
              have HL3 : (L2 ++ [((⟨y, od ++ [(k2 : Int)]⟩ : Nd), Value.slice (some ⟨g2, 0, none⟩) (od.length + 1) c2)]).length = nL + 1 := by rw [List.length_append, HnL.out]; rfl
              have HM3 : (L2 ++ [((⟨y, od ++ [(k2 : Int)]⟩ : Nd), Value.slice (some ⟨g2, 0, none⟩) (od.length + 1) c2)]).map (·.1) = queue (kidsN n p q r) (⟨⟨xa, xb, xc, xd, xe⟩, []⟩ : Nd) M od.length j1 ++ (List.range (k2 + 1)).map (kidN p q r ⟨x, od⟩) := by
                rw [kids_take, ← List.append_assoc, ← hQ2.out, List.map_append, ← HKD.out]; rfl
              have HL4 := Lib.hid HL3
              have HM4 := Lib.hid HM3
              clear HL3 HM3
              go_wp2
              go_roundw
              case rel => exact ⟨k2 + 1, L2 ++ [((⟨y, od ++ [(k2 : Int)]⟩ : Nd), Value.slice (some ⟨g2, 0, none⟩) (od.length + 1) c2)], g3, c3, by go_num, by omega, HM4, by rw [Hid, List.getElem?_append_left (by rw [HnL.out]; omega)]; exact HLk2.out, by rw [HL4.out], by rw [Hid, HL4.out, rowS_snoc]; exact hO3.out, hR3, hF2.out.snoc ⟨g2, c2, by rw [List.length_append]; rfl⟩, hB3⟩
              case measure => simp [intOf]; omega
          · obtain hk2n : k2 = n := by omega
            subst hk2n
            have d2 : decide ((k2 : Int) < (k2 : Int)) = false := by simp
            have HQ3 : Hid (L2.map (·.1) = queue (kidsN k2 p q r) (⟨⟨xa, xb, xc, xd, xe⟩, []⟩ : Nd) M od.length (j1 + 1)) := by rw [Hid, hQ2.out, HQ2.out]; rfl
            go_wp2
            go_roundw
            case rel => exact ⟨od.length, j1 + 1, k + 1, L2, gM, cM, by go_num, by omega, by omega, by rw [Hid, HK1.out]; omega, HQ3, by omega, rfl, hO2, hR2, hF2, hB2⟩
            case measure => simp [intOf]; omega
    · obtain hkl : k = L.length := by omega
      subst hkl
      have d1 : decide ((L.length : Int) < (L.length : Int)) = false := by simp
      have HEND := Lib.hid (queue_end hm hj hkk.out (by rw [← HLQ.out]; omega))
      go_wp2
      exact bodyPost_ret (v := .slice (some ⟨gN, 0, none⟩) L.length cN) (by simp [results, Try.results44, go_sem]) rfl ⟨L, gN, cN, rfl, by rw [hQ.out, HEND.out, HP.out], hO.out, hR.out, hF.out, hB.out⟩
end Go.Proofs.Ytdmcemhckalhkaa
