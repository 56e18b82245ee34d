/- Texts laid together: MvImpl, MovEnd. -/
import Derived.Test.YtjhifpidbobmaaaGreatDoorMg32
import Derived.Test.YtjhifpidbobmaaaGreatDoorMg15
import Derived.Test.YtjhifpidbobmaaaGreatDoorMg20
import Derived.Test.YtjhifpidbobmaaaGreatDoorMg23
import Derived.Test.YtjhifpidbobmaaaGreatDoorMg22
import Derived.Test.YtjhifpidbobmaaaGreatDoorMg11
import Derived.Test.YtjhifpidbobmaaaGreatDoorMg29
/- Moves read from their text: the program's function. -/
namespace Go.Proofs.YtjhifpidbobmaaaGreatDoor
open Go.RowKit
set_option linter.unusedVariables false
set_option linter.unusedSimpArgs false
set_option maxRecDepth 100000

theorem mvTxt_txtX (L : List Mv) : mvTxt (fun j => (L.getD j (0, 0, 0)).1) (fun j => (L.getD j (0, 0, 0)).2.1) (fun j => (L.getD j (0, 0, 0)).2.2) L.length = txtX L := by
  rw [← join_mvL, txtX]
  congr 1
  unfold mvJ
  apply List.ext_getElem (by simp)
  intro j h1 h2
  have hj : j < L.length := by simpa using h1
  simp [mvX, hj]
theorem mvR_of (L : List Mv) : mvRow L = (L.map (fun z => [Value.int .i8 z.1, Value.int .i8 z.2.1, Value.int .i16 z.2.2])).flatten := rfl
/-- The move that the program reads of a word, and whether it takes the word. -/
theorem readMove_all : ∃ F : List UInt8 → Mv × Bool, ∀ l : List UInt8, l.length ≤ 1048576 → ((F l).2 = true → ((0 ≤ (F l).1.1 ∧ (F l).1.1 ≤ 4) ∧ (0 ≤ (F l).1.2.1 ∧ (F l).1.2.1 ≤ 4)) ∧ (-32768 ≤ (F l).1.2.2 ∧ (F l).1.2.2 ≤ 32767)) ∧ (∀ m : Mv, okX m = true → l = mvX m → F l = (m, true)) ∧ ∀ w, Laid w →
    Calls Tryz.prog 33 #[.string (str l)] w fun e w' => e = .returned (.tuple #[.agg #[.int .i8 (F l).1.1, .int .i8 (F l).1.2.1, .int .i16 (F l).1.2.2], .bool (F l).2]) ∧ Below w.heap.size w w' := by
  refine Classical.axiomOfChoice (r := fun (l : List UInt8) (r : Mv × Bool) => l.length ≤ 1048576 → (r.2 = true → ((0 ≤ r.1.1 ∧ r.1.1 ≤ 4) ∧ (0 ≤ r.1.2.1 ∧ r.1.2.1 ≤ 4)) ∧ (-32768 ≤ r.1.2.2 ∧ r.1.2.2 ≤ 32767)) ∧ (∀ m : Mv, okX m = true → l = mvX m → r = (m, true)) ∧ ∀ w, Laid w →
    Calls Tryz.prog 33 #[.string (str l)] w fun e w' => e = .returned (.tuple #[.agg #[.int .i8 r.1.1, .int .i8 r.1.2.1, .int .i16 r.1.2.2], .bool r.2]) ∧ Below w.heap.size w w') (fun l => ?_)
  by_cases hl : l.length ≤ 1048576
  · obtain ⟨a, b, g, ok, h1, h2, h3⟩ := c_readMove l hl
    refine ⟨((a, b, g), ok), fun _ => ⟨h1, fun m hm e => ?_, h3⟩⟩
    obtain ⟨x, y, z⟩ := m
    obtain ⟨e1, e2, e3, e4⟩ := h2 x y z hm e
    rw [e1, e2, e3, e4]
  · exact ⟨((0, 0, 0), false), fun h => absurd h hl⟩
theorem allB_of {p : Nat → Bool} : ∀ {n : Nat}, (∀ j, j < n → p j = true) → allB n p = true
  | 0, _ => rfl
  | n + 1, h => by simp [allB, h n (by omega), allB_of (n := n) fun j hj => h j (by omega)]
theorem getD_get {L : List Mv} {j : Nat} (hj : j < L.length) : L.getD j (0, 0, 0) = L[j] := by simp [List.getD_eq_getElem?_getD, hj]
set_option maxHeartbeats 8000000 in
theorem c_iReadMoves (t : List UInt8) (ht : t.length ≤ 1048576) (w : World) (hL : Laid w) : Calls Tryz.prog 6 #[.string (str t)] w (MvEnd t w) := by
  by_cases h0 : t = []
  · have e0 : (str t).toList.isEmpty = true := by rw [str_toList, h0]; rfl
    have HM : Hid (rdM t = some []) := by rw [h0]; exact rdM_nil
    clear h0
    go_enter Tryz.func6, Tryz.ntmps6
    go_wp2
    exact bodyPost_ret (v := .tuple #[.slice none 0 0, .int .i64 0]) (by simp [results, Tryz.results6, go_sem]) rfl (mvEnd_some HM.out rfl (own_nil _ _ _ _) (Below.refl _ _))
  · have e0 : (str t).toList.isEmpty = false := by rw [str_toList]; simpa using h0
    obtain ⟨F, hF⟩ := readMove_all
    obtain ⟨m, hm⟩ := hL.top
    have CS := Lib.hid (c_Split t 32 m w ht hm)
    have hnum := splitL_num 32 t
    have HLS := Lib.hid (splitL_lens (b := 32) (t := t))
    have HBK := Lib.hid (fun L h => rdM_back (t := t) (L := L) h0 h)
    have HOF := Lib.hid (fun L hne hl hk h => rdM_of (t := t) (L := L) h0 hne hl hk h)
    have HF := Lib.hid hF
    have HLD : Hid (Laid w) := hL
    have hpos := splitL_pos 32 t
    clear h0 hm hF hL
    generalize splitL 32 t = P at *
    -- where there are moves with this text, the program reads them
    have HKN : Hid (∀ L, rdM t = some L → P = L.map mvX ∧ L.length ≤ 60 ∧ (∀ p ∈ P, (F p).2 = true) ∧ P.map (fun p => (F p).1) = L ∧ (∀ m ∈ L, okX m = true) ∧ txtX L = t) := fun L h => by
      obtain ⟨h1, h2, h3, h4⟩ := HBK.out L h
      have hf : ∀ m ∈ L, F (mvX m) = (m, true) := fun m hm => (HF.out (mvX m) (Nat.le_trans (HLS.out _ (by rw [h1]; exact List.mem_map.2 ⟨m, hm, rfl⟩)) ht)).2.1 m (h3 m hm) rfl
      refine ⟨h1, h2, fun p hp => ?_, ?_, h3, h4⟩
      · rw [h1] at hp
        obtain ⟨m, hm, rfl⟩ := List.mem_map.1 hp
        rw [hf m hm]
      · rw [h1, List.map_map]
        conv => rhs; rw [← List.map_id L]
        exact List.map_congr_left fun m hm => by simp [hf m hm]
    have HNV : Hid ((∀ L, rdM t = some L → False) → rdM t = none) := fun h => by
      cases e : rdM t with
      | none => rfl
      | some L => exact (h L e).elim
    clear HBK
    go_enter Tryz.func6, Tryz.ntmps6
    go_wp2_with (go_at_call 32; ((with_reducible refine CS.out.mono ?_); rintro e w1 ⟨rfl, rfl⟩))
    go_loopw [14, 4] (fun i v wr => ∃ k : Nat, k ≤ P.length ∧ k ≤ 60 ∧ i = .int .i64 k ∧ Hid (∀ p ∈ P.take k, (F p).2 = true) ∧ Hid (wr.ownsRow (w.heap.size + 1) 46 3 v k (mvRow ((P.take k).map fun p => (F p).1))) ∧ Hid (Below (w.heap.size + 1) (w.alloc (.cells (strs P).toArray 9 (0, 0))) wr)) (fun i _ _ => P.length - (intOf i).toNat)
    case atStart => exact ⟨0, by omega, by omega, rfl, fun p hp => by simp at hp, own_nil _ _ _ _, Below.refl _ _⟩
    case round =>
      obtain ⟨k, hk, hk60, rfl, hok, hO, hB⟩ := hrel
      have HW := Lib.hid ((below_alloc (Below.refl w.heap.size w) (.cells (strs P).toArray 9 (0, 0))).trans (hB.out.mono (Nat.le_succ _)))
      by_cases hlt : k < P.length
      · have d1 : decide ((k : Int) < (P.length : Int)) = true := by simp; omega
        have k0 : (0 : Int) ≤ (k : Int) := by omega
        have k1 : (k : Int) < (P.length : Int) := by omega
        have x0 : wr.cell? ⟨w.heap.size, k, none⟩ = some (.string (str P[k])) := by
          rw [hB.out.cell (p := ⟨w.heap.size, k, none⟩) (Nat.lt_succ_self _)]
          exact row_get' k _ (by simp [strs, hlt])
        have HFk := HF.out _ (Nat.le_trans (HLS.out _ (List.getElem_mem hlt)) ht)
        have HM := Lib.hid (List.getElem_mem hlt)
        have HT : Hid (P.take (k + 1) = P.take k ++ [P[k]]) := by rw [Hid, List.take_add_one, List.getElem?_eq_getElem hlt]; rfl
        generalize P[k] = p at *
        have CR := Lib.hid (HFk.2.2 wr (HLD.out.below HW.out))
        cases hp : (F p).2
        · have EN := Lib.hid (HNV.out fun L h => by have := (HKN.out L h).2.2.1 p HM.out; rw [hp] at this; cases this)
          rw [hp] at CR
          clear hp
          go_wp2_with (go_at_call 33; ((refine CR.out.mono ?_); rintro e w2 ⟨rfl, hb⟩; have HB := Lib.hid ((below_then HW.out hb)); clear hb))
          exact bodyPost_ret (v := .tuple #[.slice none 0 0, .int .i64 5]) (by simp [results, Tryz.results6, go_sem]) rfl (mvEnd_own EN.out (own_nil _ _ _ _) (below_alloc HB.out _))
        · have hrg := HFk.1 hp
          rw [hp] at CR
          have HOK : Hid (∀ q ∈ P.take (k + 1), (F q).2 = true) := fun q hq => by
            rw [HT.out] at hq
            rcases List.mem_append.1 hq with hq | hq
            · exact hok.out q hq
            · rw [List.mem_singleton.1 hq]; exact hp
          clear hp
          obtain ⟨A4, c4, rfl, _⟩ := own_form hO.out
          by_cases h60 : k = 60
          · have EN := Lib.hid (HNV.out fun L h => by have h1 := (HKN.out L h).1; have h2 := (HKN.out L h).2.1; have := congrArg List.length h1; rw [List.length_map] at this; omega)
            subst h60
            have d1 : decide ((60 : Int) < (P.length : Int)) = true := by simp; omega
            have k1 : (60 : Int) < (P.length : Int) := by omega
            clear k0
            go_wp2_with (go_at_call 33; ((refine CR.out.mono ?_); rintro e w2 ⟨rfl, hb⟩; have HB := Lib.hid ((below_then HW.out hb)); clear hb))
            exact bodyPost_ret (v := .tuple #[.slice none 0 0, .int .i64 5]) (by simp [results, Tryz.results6, go_sem]) rfl (mvEnd_own EN.out (own_nil _ _ _ _) (below_alloc HB.out _))
          · have d6 : decide ((k : Int) = 60) = false := by simp; omega
            have d7 : ((k : Int) == 60) = false := by simp; omega
            have HE : Hid (mvRow ((P.take (k + 1)).map fun p => (F p).1) = mvRow ((P.take k).map fun p => (F p).1) ++ [.int .i8 (F p).1.1, .int .i8 (F p).1.2.1, .int .i16 (F p).1.2.2]) := by
              rw [Hid, HT.out, List.map_append]
              exact mvRow_snoc _ _ _ _
            generalize (F p).1.1 = a at *
            generalize (F p).1.2.1 = b at *
            generalize (F p).1.2.2 = g at *
            have hsz : w.heap.size + 1 ≤ wr.heap.size := by have := hB.out.size; rw [World.size_alloc] at this; exact this
            go_wp2_with (first
              | (go_at_call 33; ((refine CR.out.mono ?_); rintro e w2 ⟨rfl, hb⟩; have HO1 := Lib.hid ((own_below hO.out hb).alloc (.cells #[.int .i8 a, .int .i8 b, .int .i16 g] 46 (0, 0))); have HB1 := Lib.hid ((hB.out.trans (hb.mono hsz)).trans ((below_alloc (Below.refl w2.heap.size w2) (.cells #[.int .i8 a, .int .i8 b, .int .i16 g] 46 (0, 0))).mono (Nat.le_trans hsz hb.size))); have hs1 := HB1.out.size; rw [World.size_alloc] at hs1; clear hb))
              | (at_builtin; refine ap1 rfl (.tmp 30) (.tmp 32) 24 46 rfl ((.agg #[.int .i8 0, .int .i8 0, .int .i16 0])) 3 4 (w.heap.size + 1) Tryz.underlying24 (by kernel_rfl) rfl (by decide) (.slice A4 k c4) k (mvRow ((P.take k).map fun p => (F p).1)) [.int .i8 a, .int .i8 b, .int .i16 g] rfl rfl (by simp) rfl rfl HO1.out hs1 (by omega) (by omega) ?_; intro g6 d6' w6 hown hg6 hat; have HB6 := Lib.hid (below_grown HB1.out hg6 HO1.out (Nat.le_refl _) hs1); have HO6 := Lib.hid hown; clear hown hat hg6))
            go_roundw
            case rel => exact ⟨k + 1, by omega, by omega, by go_num, HOK, by rw [HE.out]; exact HO6, HB6⟩
            case measure => simp [intOf]; omega
      · obtain rfl : k = P.length := by omega
        have d1 : decide ((P.length : Int) < (P.length : Int)) = false := by simp
        rw [List.take_length] at hok hO
        obtain ⟨A4, c4, rfl, _⟩ := own_form hO.out
        have hMl : (P.map fun p => (F p).1).length = P.length := by simp
        have hrg : ∀ m ∈ (P.map fun p => (F p).1), (-32768 ≤ m.2.2 ∧ m.2.2 ≤ 32767) ∧ (-128 ≤ m.1 ∧ m.1 ≤ 127) ∧ (-128 ≤ m.2.1 ∧ m.2.1 ≤ 127) := fun m hm => by
          obtain ⟨p, hp, rfl⟩ := List.mem_map.1 hm
          have := (HF.out p (Nat.le_trans (HLS.out _ hp) ht)).1 (hok.out p hp)
          omega
        have HKM : Hid (∀ L, rdM t = some L → (P.map fun p => (F p).1) = L ∧ (∀ m ∈ L, okX m = true) ∧ txtX L = t) := fun L h => ⟨(HKN.out L h).2.2.2.1, (HKN.out L h).2.2.2.2⟩
        clear HKN hok HF HLS CS
        have hPL' : P.length = (P.map fun p => (F p).1).length := by simp
        generalize hM : (P.map fun p => (F p).1) = M at *
        rw [← hMl] at d1 hO hnum
        have hMl' := hMl.symm
        have hPL : (P.length : Int) = (M.length : Int) := by omega
        have hpos' : 0 < M.length := by omega
        have hM60 : M.length ≤ 60 := by omega
        have hM61 : M.length ≤ 1048576 := by omega
        have hPN : P.length = M.length := by omega
        have HN0 : Hid (M ≠ []) := fun h => by rw [h] at hpos'; exact absurd hpos' (Nat.lt_irrefl 0)
        clear hMl hMl' hM hPL' d1 hpos
        rw [hPN] at *
        clear hPN hPL
        have hgr : ∀ j, j < M.length → (-32768 ≤ (M.getD j (0, 0, 0)).2.2 ∧ (M.getD j (0, 0, 0)).2.2 ≤ 32767) ∧ (-128 ≤ (M.getD j (0, 0, 0)).1 ∧ (M.getD j (0, 0, 0)).1 ≤ 127) ∧ (-128 ≤ (M.getD j (0, 0, 0)).2.1 ∧ (M.getD j (0, 0, 0)).2.1 ≤ 127) := fun j hj => by
          rw [getD_get hj]; exact hrg _ (List.getElem_mem hj)
        have HMA := Lib.hid (movesAt_of (own_rd hO.out))
        have CV := Lib.hid (c_iValidMoves A4 M.length c4 _ _ _ wr HMA.out hM61 hgr)
        cases q1 : (allB M.length (fun j => okMove (M.getD j (0, 0, 0)).1 (M.getD j (0, 0, 0)).2.1 (M.getD j (0, 0, 0)).2.2) && decide (M.length ≤ 60))
        · have EN := Lib.hid (HNV.out fun L h => by
            obtain ⟨e1, e2, e3⟩ := HKM.out L h
            subst e1
            rw [Bool.and_eq_false_iff] at q1
            rcases q1 with q1 | q1
            · rw [allB_of fun j hj => ?_] at q1
              · cases q1
              · show okMove _ _ _ = true
                rw [getD_get hj]
                exact e2 _ (List.getElem_mem hj)
            · rw [decide_eq_false_iff_not] at q1
              exact absurd hM60 q1)
          rw [q1] at CV
          clear q1
          go_wp2_with (go_at_call 18; ((refine CV.out.mono ?_); rintro e w2 ⟨rfl, hb⟩; have HB := Lib.hid ((below_then HW.out hb)); clear hb))
          exact bodyPost_ret (v := .tuple #[.slice none 0 0, .int .i64 5]) (by simp [results, Tryz.results6, go_sem]) rfl (mvEnd_own EN.out (own_nil _ _ _ _) HB.out)
        · have hok2 := (ok_moves q1).2
          have CX := Lib.hid (fun w h ht => c_movesText A4 M.length c4 _ _ _ w h (ok_moves q1).1 hok2 ht)
          rw [mvTxt_txtX] at CX
          have HLW := Lib.hid (HLD.out.below HW.out)
          rw [q1] at CV
          by_cases htx : txtX M = t
          · have dt : ((str (txtX M)).toList == (str t).toList) = true := by rw [htx]; simp
            have EY : Hid (rdM t = some M) := by
              exact HOF.out M HN0.out (ok_moves q1).1 (fun m hm => by
                  obtain ⟨j, hj, rfl⟩ := List.getElem_of_mem hm
                  have := allB_get (by rw [Bool.and_eq_true] at q1; exact q1.1) j hj
                  rw [getD_get hj] at this
                  exact this) htx
            clear q1 hok2 htx
            go_wp2_with (first
              | (go_at_call 18; ((refine CV.out.mono ?_); rintro e w2 ⟨rfl, hb⟩; have HO2 := Lib.hid (own_below hO.out hb); have HM2 := Lib.hid (HMA.out.below hb); have HL2 := Lib.hid (HLW.out.below hb); have HB := Lib.hid ((below_then HW.out hb)); clear hb))
              | (go_at_call 34; ((refine (CX.out _ HM2.out HL2.out.tab).mono ?_); rintro e w3 ⟨rfl, hb⟩; have HO3 := Lib.hid (own_below HO2.out hb); have HB := Lib.hid ((below_then HB.out hb)); clear hb)))
            exact bodyPost_ret (v := .tuple #[.slice A4 M.length c4, .int .i64 0]) (by simp [results, Tryz.results6, go_sem]) rfl (mvEnd_some EY.out rfl (own_mono HO3.out (Nat.le_succ _)) HB.out)
          · have dt : ((str (txtX M)).toList == (str t).toList) = false := by
              rw [str_toList, str_toList]
              simpa using htx
            have EN := Lib.hid (HNV.out fun L h => htx (by obtain ⟨e1, e2, e3⟩ := HKM.out L h; rw [e1]; exact e3))
            clear q1 hok2 htx
            go_wp2_with (first
              | (go_at_call 18; ((refine CV.out.mono ?_); rintro e w2 ⟨rfl, hb⟩; have HM2 := Lib.hid (HMA.out.below hb); have HL2 := Lib.hid (HLW.out.below hb); have HB := Lib.hid ((below_then HW.out hb)); clear hb))
              | (go_at_call 34; ((refine (CX.out _ HM2.out HL2.out.tab).mono ?_); rintro e w3 ⟨rfl, hb⟩; have HB := Lib.hid ((below_then HB.out hb)); clear hb)))
            exact bodyPost_ret (v := .tuple #[.slice none 0 0, .int .i64 5]) (by simp [results, Tryz.results6, go_sem]) rfl (mvEnd_own EN.out (own_nil _ _ _ _) HB.out)
end Go.Proofs.YtjhifpidbobmaaaGreatDoor
/- The law on moves: all that it asks for, of a drawn list. -/
namespace Go.Proofs.YtjhifpidbobmaaaGreatDoor
open Go.RowKit
set_option linter.unusedVariables false
set_option linter.unusedSimpArgs false

/-- All that is known of a drawn list of moves. -/
structure MvF (L : List (Int × Int × Int)) (D E N : List Int) (M : List (Int × Int × Int)) : Prop where
  ok : ∀ j, j < L.length → okMove (fS L j) (fT L j) (fG L j) = true
  vld : (allB L.length (fun j => okMove (fS L j) (fT L j) (fG L j)) && decide (L.length ≤ 60)) = true
  least : leastR L.length (fS L) (fT L) (fG L) = (D, 0)
  net : netR L.length (fS L) (fT L) (fG L) = (N, 0)
  make : makeP D L.length (fS L) (fT L) (fG L) = E
  plc : placesF D L.length (fS L) (fT L) (fG L) = (L.length, 0)
  first : firstF D L.length (fS L) (fT L) (fG L) = (0, 6)
  dl : D.length = 5
  el : E.length = 5
  nl : N.length = 5
  db : ∀ i, 0 ≤ gi D i ∧ gi D i ≤ 600000
  nb : ∀ i, -60000 ≤ gi N i ∧ gi N i ≤ 60000
  model : ∀ i, gi E i = gi D i + gi N i
  low : ∀ i, i < 5 → lowN D (fS L) (fT L) (fG L) i L.length = 0
  less : ∀ i, i < 5 → 0 < gi D i → ∃ c, firstF (D.set i (gi D i - 1)) L.length (fS L) (fT L) (fG L) = (c, 0)
  sum : sumZ N 5 = 0
  al : ∀ k, (atN D (fS L) (fT L) (fG L) k).length = 5
  ab : ∀ k, k ≤ L.length → ∀ i, -2147483648 ≤ gi (atN D (fS L) (fT L) (fG L) k) i ∧ gi (atN D (fS L) (fT L) (fG L) k) i ≤ 2147483647
  merged : mergeF L.length (fS L) (fT L) (fG L) = (M, 0)
  mok : ∀ j, j < M.length → okMove (fS M j) (fT M j) (fG M j) = true
  mnet : netR M.length (fS M) (fT M) (fG M) = (N, 0)
  mle : M.length ≤ L.length
  mnext : ∀ i, 1 ≤ i → i < M.length → ¬ fS M i < fS M (i - 1) ∧ ¬ (fS M i = fS M (i - 1) ∧ fT M i ≤ fT M (i - 1))
  text : movTextF L.length (fS L) (fT L) (fG L) = txtX L
  txl : (txtX L).length ≤ 1048576
  rd : rdML (txtX L) = L
  rk : rdMK (txtX L) = 0
theorem gi_out5 {p : List Int} (h : p.length = 5) {i : Nat} (hi : ¬ i < 5) : gi p i = 0 := by
  simp [gi, List.getD_eq_getElem?_getD, List.getElem?_eq_none (show p.length ≤ i by omega)]
theorem mvF_of {L : List (Int × Int × Int)} (hl : L.length ≤ 6) (hL : ∀ x ∈ L, MvDr x) : ∃ D E N M, MvF L D E N M := by
  have ok := ok_list fun x hx => (hL x hx).ok
  have vld : (allB L.length (fun j => okMove (fS L j) (fT L j) (fG L j)) && decide (L.length ≤ 60)) = true := by rw [allB_ofM ok, decide_eq_true (by omega)]; rfl
  have h40 : ∀ j, j < L.length → fG L j ≤ 40 := fun j hj => by rw [(f_get hj).2.2]; exact (hL _ (List.getElem_mem hj)).g
  have h5 : ∀ j, j < L.length → 1 ≤ fG L j ∧ fG L j ≤ 5000 := fun j hj => by have := okMove_all (ok j hj); omega
  have small : ∀ a b, sumAB (fS L) (fT L) (fG L) a b L.length ≤ 5000 := fun a b => by have := (sum_small (s := fS L) (t := fT L) h5 hl h40 a b L.length (Nat.le_refl _)).2; omega
  have pos : ∀ a b, 0 ≤ sumAB (fS L) (fT L) (fG L) a b L.length := fun a b => (sum_small (s := fS L) (t := fT L) h5 hl h40 a b L.length (Nat.le_refl _)).1
  have hD := leastN_five (show L.length ≤ 60 by omega) ok L.length (Nat.le_refl _)
  have hN := netN_five ok L.length (Nat.le_refl _)
  have mok := ok_list (mrg_moves ok small 25 (Nat.le_refl _))
  have mle := mrg_le (s := fS L) (t := fT L) (g := fG L) (n := L.length) (p := 25) (Nat.le_refl _)
  have good := due_good ok hl L.length (Nat.le_refl _)
  have all := due_all ok hl
  have txt : mvTxt (fS L) (fT L) (fG L) L.length = txtX L := mvTxt_txtX L
  have okx : ∀ m ∈ L, okX m = true := fun m hm => (hL m hm).ok
  have txl : (txtX L).length ≤ 1048576 := by
    have := mvTxt_len (s := fS L) (t := fT L) (g := fG L) (n := L.length) (fun j hj => okMove_bd (ok j hj)) L.length (Nat.le_refl _)
    rw [txt] at this
    omega
  have rd : rdM (txtX L) = some L := by
    rcases L with _ | ⟨m, L⟩
    · rfl
    · have hne : txtX (m :: L) ≠ [] := fun e => by
        have h2 := split_moves (m :: L) (by simp)
        rw [show Lib.join ((m :: L).map mvX) [32] = txtX (m :: L) from rfl, e] at h2
        have h0 : splitL 32 ([] : List UInt8) = [[]] := rfl
        rw [h0, List.map_cons] at h2
        have h4 : mvX m = [] := ((List.cons.inj h2).1).symm
        have h5 := congrArg List.length h4
        simp [mvX, mvT] at h5
      exact rdM_of hne (by simp) (by omega) okx rfl
  refine ⟨leastN (fS L) (fT L) (fG L) L.length, atN (leastN (fS L) (fT L) (fG L) L.length) (fS L) (fT L) (fG L) L.length, netN (fS L) (fT L) (fG L) L.length, mrgL (fS L) (fT L) (fG L) L.length 25, ?_⟩
  have dnn : ∀ i, 0 ≤ gi (leastN (fS L) (fT L) (fG L) L.length) i ∧ gi (leastN (fS L) (fT L) (fG L) L.length) i ≤ 600000 := fun i => by
    have h2 := hD.bd i
    by_cases hi : i < 5
    · have h1 := (least_spec ok (by omega) hi L.length (Nat.le_refl _)).1 0 (by omega)
      rw [netN, gi_zero5] at h1
      omega
    · rw [gi_out5 hD.len hi]; omega
  have ab : ∀ k, k ≤ L.length → ∀ i, -2147483648 ≤ gi (atN (leastN (fS L) (fT L) (fG L) L.length) (fS L) (fT L) (fG L) k) i ∧ gi (atN (leastN (fS L) (fT L) (fG L) L.length) (fS L) (fT L) (fG L) k) i ≤ 2147483647 := fun k hk i => by
    rw [atN_gi ok hD.len k hk]
    have h1 := dnn i
    have h2 := (netN_five ok k hk).bd i
    omega
  exact {
    ok := ok, vld := vld
    least := by rw [leastR, if_pos vld]
    net := by rw [netR, if_pos vld]
    make := by rw [makeP, if_pos ⟨all, good⟩]
    plc := by rw [placesF, if_pos all, if_pos good]
    first := by rw [firstF, if_pos all, if_pos good]
    dl := hD.len
    el := atN_len hD.len _ _ _ _
    nl := hN.len
    db := dnn
    nb := fun i => by have := hN.bd i; omega
    model := fun i => atN_gi ok hD.len _ (Nat.le_refl _) i
    low := fun i hi => low_zero ok hl hi
    less := fun i hi hp => by
      obtain ⟨h1, h2⟩ := less_wrong ok hl hi hp
      exact ⟨_, by rw [firstF, if_pos h1, if_neg h2]⟩
    sum := by
      have := net_sum ok L.length (Nat.le_refl _)
      simp only [sumZ]
      omega
    al := fun k => atN_len hD.len _ _ _ _
    ab := ab
    merged := by
      have hm : mrgOk (fS L) (fT L) (fG L) L.length 25 = true := allB_ofM fun q _ => decide_eq_true (small _ _)
      rw [mergeF, if_pos vld, if_pos hm]
    mok := mok
    mnet := by
      have v2 : (allB (mrgL (fS L) (fT L) (fG L) L.length 25).length (fun j => okMove (fS (mrgL (fS L) (fT L) (fG L) L.length 25) j) (fT (mrgL (fS L) (fT L) (fG L) L.length 25) j) (fG (mrgL (fS L) (fT L) (fG L) L.length 25) j)) && decide ((mrgL (fS L) (fT L) (fG L) L.length 25).length ≤ 60)) = true := by
        rw [allB_ofM mok, decide_eq_true (by omega)]; rfl
      rw [netR, if_pos v2, mrg_same ok small pos]
    mle := mle
    mnext := fun i h1 hi => mrg_next (Nat.le_refl _) h1 hi
    text := by rw [movTextF, if_pos vld, txt]
    txl := txl
    rd := (rdM_some rd).1
    rk := (rdM_some rd).2 }
theorem undo_ok {L : List (Int × Int × Int)} {k : Nat} (hv : (allB L.length (fun j => okMove (fS L j) (fT L j) (fG L j)) && decide (L.length ≤ 60)) = true) (hk : k < L.length) : ∃ U, undoF L.length (fS L) (fT L) (fG L) (k : Int) = (U, 0) ∧ U.length + 1 = L.length := by
  refine ⟨_, by rw [undoF, if_pos hv, if_pos (by simp [inB]; omega)], ?_⟩
  rw [List.length_append, mvL_len, mvL_len, Int.toNat_natCast]
  omega
theorem may_one {a b g : Int} (h : okMove a b g = true) : mayMove a b = true ∧ mayMove b a = false := by
  simp only [okMove, Bool.and_eq_true] at h
  refine ⟨h.1, ?_⟩
  have := h.1
  simp only [mayMove, Bool.or_eq_true, Bool.and_eq_true, beq_iff_eq] at this
  cases e : mayMove b a
  · rfl
  · simp only [mayMove, Bool.or_eq_true, Bool.and_eq_true, beq_iff_eq] at e
    omega
/-- The three shares. -/
theorem share_all {c a b : Int} (hc : 0 ≤ c ∧ c < 200) (ha : 0 ≤ a ∧ a < 9) (hb : 0 ≤ b ∧ b < 9) : ∃ P, shareF c [3, a, b] 3 = (P, 0) ∧ P.length = 3 ∧ sumZ P 3 = c ∧ (∀ i, i < 3 → 0 ≤ gi P i ∧ gi P i ≤ 1000100) ∧ ∀ i, i < 3 → -(3 + a + b) < gi P i * (3 + a + b) - c * gi [3, a, b] i ∧ gi P i * (3 + a + b) - c * gi [3, a, b] i < 3 + a + b := by
  have hs : sumZ [3, a, b] 3 = 3 + a + b := by simp [sumZ, gi]
  have hg : ∀ i, i < 3 → 0 ≤ gi [3, a, b] i ∧ gi [3, a, b] i ≤ 5000 := fun i hi => by
    rcases (show i = 0 ∨ i = 1 ∨ i = 2 by omega) with rfl | rfl | rfl
    · show (0 : Int) ≤ 3 ∧ (3 : Int) ≤ 5000; omega
    · show 0 ≤ a ∧ a ≤ 5000; omega
    · show 0 ≤ b ∧ b ≤ 5000; omega
  have hf : fineZ c [3, a, b] 3 = true := by
    rw [fineZ, allB_ofM fun j hj => by have := hg j hj; simp [inB]; omega]
    simp [inB]; omega
  have H : ShOk c (sumZ [3, a, b] 3) [3, a, b] 3 := ⟨by omega, by omega, hg, by omega, rfl, by rw [hs]; omega⟩
  have hlf := H.left_lt
  have hl0 := (H.left (Nat.le_refl 3)).1
  refine ⟨_, share_code hf (by omega) (by rw [hs]; omega), ?_, share_sum H, fun i hi => ?_, fun i hi => ?_⟩
  · rw [outK_len]; simp [baseZ]
  · have := outK_bd (base := baseZ c (sumZ [3, a, b] 3) [3, a, b] 3) (key := remZ c (sumZ [3, a, b] 3) [3, a, b]) (n := 3) (fun j hj => by have := H.quo hj; rw [base_gi hj]; omega) (by simp [baseZ]) (leftZ c (sumZ [3, a, b] 3) [3, a, b] 3).toNat (by omega) i hi
    omega
  · have := share_near H hi
    rw [hs] at this ⊢
    exact this
end Go.Proofs.YtjhifpidbobmaaaGreatDoor
