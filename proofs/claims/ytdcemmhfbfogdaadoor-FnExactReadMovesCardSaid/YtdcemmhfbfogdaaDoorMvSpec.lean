/- Moves read from their text: the reference's function. -/
import Derived.Test.YtdcemmhfbfogdaaDoorMvPure
namespace Go.Proofs.YtdcemmhfbfogdaaDoor
open Go.RowKit
set_option linter.unusedVariables false
set_option linter.unusedSimpArgs false
set_option maxRecDepth 100000

theorem own_some2 {w : World} {base : Nat} {e : TypeId} {size n : Nat} {v : Value} {xs : List Value} (h : w.ownsRow base e size v n xs) (hn : 0 < n) : ∃ g c, v = .slice (some ⟨g, 0, none⟩) n c := by
  rcases h.2 with ⟨_, h0⟩ | ⟨g, c, cur, h1, _⟩
  · omega
  · exact ⟨g, c, h1⟩
theorem splitL_pos (b : UInt8) (t : List UInt8) : 0 < (splitL b t).length := by rw [splitL]; simp
theorem parse_no1 {w : List UInt8} (h : (splitL 58 w).length ≠ 2) : parseM w = none := by
  unfold parseM
  split
  · rename_i p q e; rw [e] at h; exact absurd rfl h
  · rfl
theorem parse_no2 {w p q : List UInt8} (hw : splitL 58 w = [p, q]) (h : (splitL 62 p).length ≠ 2) : parseM w = none := by
  unfold parseM
  rw [hw]
  simp only
  split
  · rename_i x y e; rw [e] at h; exact absurd rfl h
  · rfl
theorem parse_no3 {w p q x y : List UInt8} (hw : splitL 58 w = [p, q]) (hp : splitL 62 p = [x, y]) (h : ¬ (okNum x = true ∧ okNum y = true ∧ okNum q = true ∧ valD x ≤ 4 ∧ valD y ≤ 4 ∧ valD q ≤ 5000 ∧ okMove (valD x) (valD y) (valD q) = true)) : parseM w = none := by
  unfold parseM
  rw [hw]
  simp only
  rw [hp]
  simp only
  rw [if_neg h]
theorem parse_yes {w p q x y : List UInt8} (hw : splitL 58 w = [p, q]) (hp : splitL 62 p = [x, y]) (h : okNum x = true ∧ okNum y = true ∧ okNum q = true ∧ valD x ≤ 4 ∧ valD y ≤ 4 ∧ valD q ≤ 5000 ∧ okMove (valD x) (valD y) (valD q) = true) : parseM w = some ((valD x : Int), (valD y : Int), (valD q : Int)) := by
  unfold parseM
  rw [hw]
  simp only
  rw [hp]
  simp only
  rw [if_pos h]
theorem pair_of {l : List (List UInt8)} (h : l.length = 2) : ∃ p q, l = [p, q] := by
  match l, h with
  | [p, q], _ => exact ⟨p, q, rfl⟩
theorem pair_lens {b : UInt8} {t p q : List UInt8} (h : splitL b t = [p, q]) : p.length ≤ t.length ∧ q.length ≤ t.length := ⟨splitL_lens p (by rw [h]; simp), splitL_lens q (by rw [h]; simp)⟩
theorem oneC3 (a b g : Int) : ([.int .i8 a, .int .i8 b, .int .i16 g] : List Value).all (·.oneCell') = true := by simp [Value.oneCell']
/-- What a call ends with. -/
abbrev MvEnd (t : List UInt8) (w : World) (e : Ending) (w' : World) : Prop := ∃ v, e = .returned (.tuple #[v, .int .i64 (rdMK t)]) ∧ w'.ownsRow w.heap.size 62 3 v (rdML t).length (mvRow (rdML t)) ∧ Below w.heap.size w w'
theorem mvEnd_new {t : List UInt8} {w w' : World} (h : rdM t = none) (hb : Below w.heap.size w w') : MvEnd t w (.returned (.tuple #[.slice (some ⟨w'.heap.size, 0, none⟩) 0 0, .int .i64 5])) (w'.alloc (.cells #[] 62 (0, 0))) := by
  obtain ⟨h1, h2⟩ := rdM_none h
  unfold MvEnd
  rw [h1, h2]
  exact ⟨_, rfl, own_empty (heap_alloc_new w' _) hb.size, below_alloc hb _⟩
theorem mvEnd_own {t : List UInt8} {w w' : World} {v : Value} (h : rdM t = none) (ho : w'.ownsRow w.heap.size 62 3 v 0 []) (hb : Below w.heap.size w w') : MvEnd t w (.returned (.tuple #[v, .int .i64 5])) w' := by
  obtain ⟨h1, h2⟩ := rdM_none h
  unfold MvEnd
  rw [h1, h2]
  exact ⟨_, rfl, ho, hb⟩
theorem mvEnd_some {t : List UInt8} {w w' : World} {v : Value} {L : List Mv} {n : Nat} (h : rdM t = some L) (hn : n = L.length) (ho : w'.ownsRow w.heap.size 62 3 v n (mvRow L)) (hb : Below w.heap.size w w') : MvEnd t w (.returned (.tuple #[v, .int .i64 0])) w' := by
  obtain ⟨h1, h2⟩ := rdM_some h
  unfold MvEnd
  rw [h1, h2]
  subst hn
  exact ⟨_, rfl, ho, hb⟩
set_option maxHeartbeats 8000000 in
theorem c_sReadMoves (t : List UInt8) (ht : t.length ≤ 1048576) (w : World) : Calls Tryd.prog 21 #[.string (str t)] w (MvEnd t w) := by
  have HE : Hid ((w.alloc (.cells #[] 62 (0, 0))).ownsRow w.heap.size 62 3 (.slice (some ⟨w.heap.size, 0, none⟩) 0 0) 0 (mvRow [])) := own_empty (heap_alloc_new w _) (Nat.le_refl _)
  have HB0 : Hid (Below w.heap.size w (w.alloc (.cells #[] 62 (0, 0)))) := below_alloc (Below.refl _ _) _
  by_cases h0 : t = []
  · have e0 : (str t).toList.isEmpty = true := by rw [str_toList, h0]; rfl
    have HM : Hid (rdM t = some []) := by rw [h0]; exact rdM_nil
    clear h0
    go_enter Tryd.func21, Tryd.ntmps21
    go_wp2
    exact bodyPost_ret (v := .tuple #[.slice (some ⟨w.heap.size, 0, none⟩) 0 0, .int .i64 0]) (by simp [results, Tryd.results21, go_sem]) rfl (mvEnd_some HM.out rfl HE.out HB0.out)
  · have e0 : (str t).toList.isEmpty = false := by rw [str_toList]; simpa using h0
    have CS := Lib.hid (c_l01Split t 32 (w.alloc (.cells #[] 62 (0, 0))) ht)
    rw [show ((32 : UInt8).toNat : Int) = 32 from rfl] at CS
    have hpos := splitL_pos 32 t
    have hnum := splitL_num 32 t
    have HLS := Lib.hid (splitL_lens (b := 32) (t := t))
    have H0 : Hid (t ≠ []) := h0
    clear h0
    by_cases hl : 60 < (splitL 32 t).length
    · have EN := Lib.hid (rdM_long H0.out hl)
      have d0 : decide ((60 : Int) < ((splitL 32 t).length : Int)) = true := by simp; omega
      go_enter Tryd.func21, Tryd.ntmps21
      go_wp2_with (go_at_call 32; ((with_reducible refine CS.out.mono ?_); rintro e w1 ⟨v, rfl, hO, hb⟩; obtain ⟨g1, c1, rfl⟩ := own_some2 hO hpos; have HO1 := Lib.hid (own_below HE.out hb); have HB := Lib.hid (below_then HB0.out hb); clear hO hb))
      exact bodyPost_ret (v := .tuple #[.slice (some ⟨w.heap.size, 0, none⟩) 0 0, .int .i64 5]) (by simp [results, Tryd.results21, go_sem]) rfl (mvEnd_own EN.out HO1.out HB.out)
    · have HMM := Lib.hid (rdM_map H0.out hl)
      have d0 : decide ((60 : Int) < ((splitL 32 t).length : Int)) = false := by simp; omega
      generalize splitL 32 t = P at *
      go_enter Tryd.func21, Tryd.ntmps21
      go_wp2_with (go_at_call 32; ((with_reducible refine CS.out.mono ?_); rintro e w1 ⟨v, rfl, hO, hb⟩; obtain ⟨g1, c1, rfl⟩ := own_some2 hO hpos; rw [World.size_alloc] at hO; have HOW := Lib.hid hO; have HO1 := Lib.hid (own_below HE.out hb); have HB := Lib.hid (below_then HB0.out hb); clear hO hb))
      go_loopw [6, 4] (fun i v wr => ∃ (k : Nat) (L : List Mv), k ≤ P.length ∧ i = .int .i64 k ∧ L.length = k ∧ Hid ((P.take k).mapM parseM = some L) ∧ Hid (wr.ownsRow w.heap.size 62 3 v k (mvRow L)) ∧ Hid (wr.ownsRow (w.heap.size + 1) 9 1 (.slice (some ⟨g1, 0, none⟩) P.length c1) P.length (strs P)) ∧ Hid (Below w.heap.size w wr)) (fun i _ _ => P.length - (intOf i).toNat)
      case atStart => exact ⟨0, [], by omega, rfl, rfl, rfl, HO1, HOW, HB⟩
      case round =>
        obtain ⟨k, L, hk, rfl, hLk, hM, hO, hW, hB⟩ := hrel
        by_cases hlt : k < P.length
        · have d1 : decide ((k : Int) < (P.length : Int)) = true := by simp; omega
          have k0 : (0 : Int) ≤ (k : Int) := by omega
          have k1 : (k : Int) < (P.length : Int) := by omega
          have x0 : wr.cell? ⟨g1, k, none⟩ = some (.string (str P[k])) := (own_get hW.out (by simp [strs, hlt])).1
          have HNO := Lib.hid (fun h => mapM_no hlt h)
          have HYES := Lib.hid (fun m h => mapM_take (m := m) hlt hM.out h)
          have hwl : P[k].length ≤ 1048576 := Nat.le_trans (HLS.out _ (List.getElem_mem hlt)) ht
          generalize P[k] = wd at *
          have C1 := Lib.hid (c_l01Split wd 58 wr hwl)
          rw [show ((58 : UInt8).toNat : Int) = 58 from rfl] at C1
          have hp1 := splitL_pos 58 wd
          by_cases h2 : (splitL 58 wd).length = 2
          · obtain ⟨p, q, hpq⟩ := pair_of h2
            have HPQ := Lib.hid hpq
            rw [hpq] at C1
            have hpl := Nat.le_trans (pair_lens hpq).1 hwl
            have hql := Nat.le_trans (pair_lens hpq).2 hwl
            have C2 := fun w => Lib.hid (show Calls Tryd.prog 32 #[.string (str p), .int .u8 62] w _ from c_l01Split p 62 w hpl)
            have hp2 := splitL_pos 62 p
            clear h2 hpq hp1
            by_cases h3 : (splitL 62 p).length = 2
            · obtain ⟨x, y, hxy⟩ := pair_of h3
              have HXY := Lib.hid hxy
              rw [hxy] at C2
              have hxl := Nat.le_trans (pair_lens hxy).1 hpl
              have hyl := Nat.le_trans (pair_lens hxy).2 hpl
              have N1 := fun w => Lib.hid (c_l01Number x hxl w)
              have N2 := fun w => Lib.hid (c_l01Number y hyl w)
              have N3 := fun w => Lib.hid (c_l01Number q hql w)
              clear h3 hxy hp2
              cases q1 : okNum x
              · have EN := Lib.hid (HMM.out.trans (HNO.out (parse_no3 HPQ.out HXY.out (by rw [q1]; simp))))
                rw [q1] at N1
                clear q1
                go_wp2_with (first
                  | (go_at_call 32; ((with_reducible refine C1.out.mono ?_); rintro e w2 ⟨v, rfl, hO2, hb⟩; obtain ⟨g2, c2, rfl⟩ := own_some2 hO2 (by simp); have hp0 : w2.cell? ⟨g2, 0, none⟩ = some (.string (str p)) := (own_get hO2 (j := 0) rfl).1; have hq0 : w2.cell? ⟨g2, 1, none⟩ = some (.string (str q)) := (own_get hO2 (j := 1) rfl).1; have HO2 := Lib.hid hO2; have hB := Lib.hid (below_then hB.out hb); have hO := Lib.hid (own_below hO.out hb); have hW := Lib.hid (own_below hW.out hb); clear hO2 hb C1))
                  | (go_at_call 32; ((with_reducible refine (C2 _).out.mono ?_); rintro e w3 ⟨v, rfl, hO3, hb⟩; obtain ⟨g3, c3, rfl⟩ := own_some2 hO3 (by simp); have hx0 : w3.cell? ⟨g3, 0, none⟩ = some (.string (str x)) := (own_get hO3 (j := 0) rfl).1; have hy0 : w3.cell? ⟨g3, 1, none⟩ = some (.string (str y)) := (own_get hO3 (j := 1) rfl).1; have hq1 : w3.cell? ⟨g2, 1, none⟩ = some (.string (str q)) := (own_get (own_below HO2.out hb) (j := 1) rfl).1; have hB := Lib.hid (below_then hB.out hb); have hO := Lib.hid (own_below hO.out hb); have hW := Lib.hid (own_below hW.out hb); clear hO3 hb))
                  | (go_at_call 33; ((with_reducible refine (N1 _).out.mono ?_); rintro e w4 ⟨rfl, rfl⟩))
                  | (go_at_call 33; ((with_reducible refine (N2 _).out.mono ?_); rintro e w4 ⟨rfl, rfl⟩))
                  | (go_at_call 33; ((with_reducible refine (N3 _).out.mono ?_); rintro e w4 ⟨rfl, rfl⟩)))
                exact bodyPost_ret (v := .tuple #[.slice (some ⟨w3.heap.size, 0, none⟩) 0 0, .int .i64 5]) (by simp [results, Tryd.results21, go_sem]) rfl (mvEnd_new EN.out hB.out)
              · have nx := numV_yes q1
                rw [q1, nx] at N1
                have kbx := (okNum_dec q1).2
                clear nx
                cases q2 : okNum y
                · have EN := Lib.hid (HMM.out.trans (HNO.out (parse_no3 HPQ.out HXY.out (by rw [q2]; simp))))
                  rw [q2] at N2
                  clear q2
                  go_wp2_with (first
                    | (go_at_call 32; ((with_reducible refine C1.out.mono ?_); rintro e w2 ⟨v, rfl, hO2, hb⟩; obtain ⟨g2, c2, rfl⟩ := own_some2 hO2 (by simp); have hp0 : w2.cell? ⟨g2, 0, none⟩ = some (.string (str p)) := (own_get hO2 (j := 0) rfl).1; have hq0 : w2.cell? ⟨g2, 1, none⟩ = some (.string (str q)) := (own_get hO2 (j := 1) rfl).1; have HO2 := Lib.hid hO2; have hB := Lib.hid (below_then hB.out hb); have hO := Lib.hid (own_below hO.out hb); have hW := Lib.hid (own_below hW.out hb); clear hO2 hb C1))
                    | (go_at_call 32; ((with_reducible refine (C2 _).out.mono ?_); rintro e w3 ⟨v, rfl, hO3, hb⟩; obtain ⟨g3, c3, rfl⟩ := own_some2 hO3 (by simp); have hx0 : w3.cell? ⟨g3, 0, none⟩ = some (.string (str x)) := (own_get hO3 (j := 0) rfl).1; have hy0 : w3.cell? ⟨g3, 1, none⟩ = some (.string (str y)) := (own_get hO3 (j := 1) rfl).1; have hq1 : w3.cell? ⟨g2, 1, none⟩ = some (.string (str q)) := (own_get (own_below HO2.out hb) (j := 1) rfl).1; have hB := Lib.hid (below_then hB.out hb); have hO := Lib.hid (own_below hO.out hb); have hW := Lib.hid (own_below hW.out hb); clear hO3 hb))
                    | (go_at_call 33; ((with_reducible refine (N1 _).out.mono ?_); rintro e w4 ⟨rfl, rfl⟩))
                    | (go_at_call 33; ((with_reducible refine (N2 _).out.mono ?_); rintro e w4 ⟨rfl, rfl⟩))
                    | (go_at_call 33; ((with_reducible refine (N3 _).out.mono ?_); rintro e w4 ⟨rfl, rfl⟩)))
                  exact bodyPost_ret (v := .tuple #[.slice (some ⟨w3.heap.size, 0, none⟩) 0 0, .int .i64 5]) (by simp [results, Tryd.results21, go_sem]) rfl (mvEnd_new EN.out hB.out)
                · have ny := numV_yes q2
                  rw [q2, ny] at N2
                  have kby := (okNum_dec q2).2
                  clear ny
                  cases q3 : okNum q
                  · have EN := Lib.hid (HMM.out.trans (HNO.out (parse_no3 HPQ.out HXY.out (by rw [q3]; simp))))
                    rw [q3] at N3
                    clear q3
                    go_wp2_with (first
                      | (go_at_call 32; ((with_reducible refine C1.out.mono ?_); rintro e w2 ⟨v, rfl, hO2, hb⟩; obtain ⟨g2, c2, rfl⟩ := own_some2 hO2 (by simp); have hp0 : w2.cell? ⟨g2, 0, none⟩ = some (.string (str p)) := (own_get hO2 (j := 0) rfl).1; have hq0 : w2.cell? ⟨g2, 1, none⟩ = some (.string (str q)) := (own_get hO2 (j := 1) rfl).1; have HO2 := Lib.hid hO2; have hB := Lib.hid (below_then hB.out hb); have hO := Lib.hid (own_below hO.out hb); have hW := Lib.hid (own_below hW.out hb); clear hO2 hb C1))
                      | (go_at_call 32; ((with_reducible refine (C2 _).out.mono ?_); rintro e w3 ⟨v, rfl, hO3, hb⟩; obtain ⟨g3, c3, rfl⟩ := own_some2 hO3 (by simp); have hx0 : w3.cell? ⟨g3, 0, none⟩ = some (.string (str x)) := (own_get hO3 (j := 0) rfl).1; have hy0 : w3.cell? ⟨g3, 1, none⟩ = some (.string (str y)) := (own_get hO3 (j := 1) rfl).1; have hq1 : w3.cell? ⟨g2, 1, none⟩ = some (.string (str q)) := (own_get (own_below HO2.out hb) (j := 1) rfl).1; have hB := Lib.hid (below_then hB.out hb); have hO := Lib.hid (own_below hO.out hb); have hW := Lib.hid (own_below hW.out hb); clear hO3 hb))
                      | (go_at_call 33; ((with_reducible refine (N1 _).out.mono ?_); rintro e w4 ⟨rfl, rfl⟩))
                      | (go_at_call 33; ((with_reducible refine (N2 _).out.mono ?_); rintro e w4 ⟨rfl, rfl⟩))
                      | (go_at_call 33; ((with_reducible refine (N3 _).out.mono ?_); rintro e w4 ⟨rfl, rfl⟩)))
                    exact bodyPost_ret (v := .tuple #[.slice (some ⟨w3.heap.size, 0, none⟩) 0 0, .int .i64 5]) (by simp [results, Tryd.results21, go_sem]) rfl (mvEnd_new EN.out hB.out)
                  · have nq := numV_yes q3
                    rw [q3, nq] at N3
                    have kbq := (okNum_dec q3).2
                    clear nq
                    by_cases lx : 4 < valD x
                    · have EN := Lib.hid (HMM.out.trans (HNO.out (parse_no3 HPQ.out HXY.out (by omega))))
                      have dlx : decide ((4 : Int) < (valD x : Int)) = true := by simp; omega
                      clear q1 q2 q3
                      go_wp2_with (first
                        | (go_at_call 32; ((with_reducible refine C1.out.mono ?_); rintro e w2 ⟨v, rfl, hO2, hb⟩; obtain ⟨g2, c2, rfl⟩ := own_some2 hO2 (by simp); have hp0 : w2.cell? ⟨g2, 0, none⟩ = some (.string (str p)) := (own_get hO2 (j := 0) rfl).1; have hq0 : w2.cell? ⟨g2, 1, none⟩ = some (.string (str q)) := (own_get hO2 (j := 1) rfl).1; have HO2 := Lib.hid hO2; have hB := Lib.hid (below_then hB.out hb); have hO := Lib.hid (own_below hO.out hb); have hW := Lib.hid (own_below hW.out hb); clear hO2 hb C1))
                        | (go_at_call 32; ((with_reducible refine (C2 _).out.mono ?_); rintro e w3 ⟨v, rfl, hO3, hb⟩; obtain ⟨g3, c3, rfl⟩ := own_some2 hO3 (by simp); have hx0 : w3.cell? ⟨g3, 0, none⟩ = some (.string (str x)) := (own_get hO3 (j := 0) rfl).1; have hy0 : w3.cell? ⟨g3, 1, none⟩ = some (.string (str y)) := (own_get hO3 (j := 1) rfl).1; have hq1 : w3.cell? ⟨g2, 1, none⟩ = some (.string (str q)) := (own_get (own_below HO2.out hb) (j := 1) rfl).1; have hB := Lib.hid (below_then hB.out hb); have hO := Lib.hid (own_below hO.out hb); have hW := Lib.hid (own_below hW.out hb); clear hO3 hb))
                        | (go_at_call 33; ((with_reducible refine (N1 _).out.mono ?_); rintro e w4 ⟨rfl, rfl⟩))
                        | (go_at_call 33; ((with_reducible refine (N2 _).out.mono ?_); rintro e w4 ⟨rfl, rfl⟩))
                        | (go_at_call 33; ((with_reducible refine (N3 _).out.mono ?_); rintro e w4 ⟨rfl, rfl⟩)))
                      exact bodyPost_ret (v := .tuple #[.slice (some ⟨w3.heap.size, 0, none⟩) 0 0, .int .i64 5]) (by simp [results, Tryd.results21, go_sem]) rfl (mvEnd_new EN.out hB.out)
                    · have dlx : decide ((4 : Int) < (valD x : Int)) = false := by simp; omega
                      by_cases ly : 4 < valD y
                      · have EN := Lib.hid (HMM.out.trans (HNO.out (parse_no3 HPQ.out HXY.out (by omega))))
                        have dly : decide ((4 : Int) < (valD y : Int)) = true := by simp; omega
                        clear q1 q2 q3
                        go_wp2_with (first
                          | (go_at_call 32; ((with_reducible refine C1.out.mono ?_); rintro e w2 ⟨v, rfl, hO2, hb⟩; obtain ⟨g2, c2, rfl⟩ := own_some2 hO2 (by simp); have hp0 : w2.cell? ⟨g2, 0, none⟩ = some (.string (str p)) := (own_get hO2 (j := 0) rfl).1; have hq0 : w2.cell? ⟨g2, 1, none⟩ = some (.string (str q)) := (own_get hO2 (j := 1) rfl).1; have HO2 := Lib.hid hO2; have hB := Lib.hid (below_then hB.out hb); have hO := Lib.hid (own_below hO.out hb); have hW := Lib.hid (own_below hW.out hb); clear hO2 hb C1))
                          | (go_at_call 32; ((with_reducible refine (C2 _).out.mono ?_); rintro e w3 ⟨v, rfl, hO3, hb⟩; obtain ⟨g3, c3, rfl⟩ := own_some2 hO3 (by simp); have hx0 : w3.cell? ⟨g3, 0, none⟩ = some (.string (str x)) := (own_get hO3 (j := 0) rfl).1; have hy0 : w3.cell? ⟨g3, 1, none⟩ = some (.string (str y)) := (own_get hO3 (j := 1) rfl).1; have hq1 : w3.cell? ⟨g2, 1, none⟩ = some (.string (str q)) := (own_get (own_below HO2.out hb) (j := 1) rfl).1; have hB := Lib.hid (below_then hB.out hb); have hO := Lib.hid (own_below hO.out hb); have hW := Lib.hid (own_below hW.out hb); clear hO3 hb))
                          | (go_at_call 33; ((with_reducible refine (N1 _).out.mono ?_); rintro e w4 ⟨rfl, rfl⟩))
                          | (go_at_call 33; ((with_reducible refine (N2 _).out.mono ?_); rintro e w4 ⟨rfl, rfl⟩))
                          | (go_at_call 33; ((with_reducible refine (N3 _).out.mono ?_); rintro e w4 ⟨rfl, rfl⟩)))
                        exact bodyPost_ret (v := .tuple #[.slice (some ⟨w3.heap.size, 0, none⟩) 0 0, .int .i64 5]) (by simp [results, Tryd.results21, go_sem]) rfl (mvEnd_new EN.out hB.out)
                      · have dly : decide ((4 : Int) < (valD y : Int)) = false := by simp; omega
                        by_cases lq : 5000 < valD q
                        · have EN := Lib.hid (HMM.out.trans (HNO.out (parse_no3 HPQ.out HXY.out (by omega))))
                          have dlq : decide ((5000 : Int) < (valD q : Int)) = true := by simp; omega
                          clear q1 q2 q3
                          go_wp2_with (first
                            | (go_at_call 32; ((with_reducible refine C1.out.mono ?_); rintro e w2 ⟨v, rfl, hO2, hb⟩; obtain ⟨g2, c2, rfl⟩ := own_some2 hO2 (by simp); have hp0 : w2.cell? ⟨g2, 0, none⟩ = some (.string (str p)) := (own_get hO2 (j := 0) rfl).1; have hq0 : w2.cell? ⟨g2, 1, none⟩ = some (.string (str q)) := (own_get hO2 (j := 1) rfl).1; have HO2 := Lib.hid hO2; have hB := Lib.hid (below_then hB.out hb); have hO := Lib.hid (own_below hO.out hb); have hW := Lib.hid (own_below hW.out hb); clear hO2 hb C1))
                            | (go_at_call 32; ((with_reducible refine (C2 _).out.mono ?_); rintro e w3 ⟨v, rfl, hO3, hb⟩; obtain ⟨g3, c3, rfl⟩ := own_some2 hO3 (by simp); have hx0 : w3.cell? ⟨g3, 0, none⟩ = some (.string (str x)) := (own_get hO3 (j := 0) rfl).1; have hy0 : w3.cell? ⟨g3, 1, none⟩ = some (.string (str y)) := (own_get hO3 (j := 1) rfl).1; have hq1 : w3.cell? ⟨g2, 1, none⟩ = some (.string (str q)) := (own_get (own_below HO2.out hb) (j := 1) rfl).1; have hB := Lib.hid (below_then hB.out hb); have hO := Lib.hid (own_below hO.out hb); have hW := Lib.hid (own_below hW.out hb); clear hO3 hb))
                            | (go_at_call 33; ((with_reducible refine (N1 _).out.mono ?_); rintro e w4 ⟨rfl, rfl⟩))
                            | (go_at_call 33; ((with_reducible refine (N2 _).out.mono ?_); rintro e w4 ⟨rfl, rfl⟩))
                            | (go_at_call 33; ((with_reducible refine (N3 _).out.mono ?_); rintro e w4 ⟨rfl, rfl⟩)))
                          exact bodyPost_ret (v := .tuple #[.slice (some ⟨w3.heap.size, 0, none⟩) 0 0, .int .i64 5]) (by simp [results, Tryd.results21, go_sem]) rfl (mvEnd_new EN.out hB.out)
                        · have dlq : decide ((5000 : Int) < (valD q : Int)) = false := by simp; omega
                          have wx : IntKind.i8.wrap (valD x : Int) = (valD x : Int) := IntWalk.i8_in _ (by omega)
                          have wy : IntKind.i8.wrap (valD y : Int) = (valD y : Int) := IntWalk.i8_in _ (by omega)
                          have wq : IntKind.i16.wrap (valD q : Int) = (valD q : Int) := IntWalk.i16_in _ (by omega)
                          have CV := fun w => c_l07Move (valD x) (valD y) (valD q) w (by omega) (by omega) (by omega)
                          cases qm : okMove (valD x) (valD y) (valD q)
                          · have EN := Lib.hid (HMM.out.trans (HNO.out (parse_no3 HPQ.out HXY.out (by rw [qm]; simp))))
                            have CV := fun w => Lib.hid (qm ▸ CV w)
                            clear qm q1 q2 q3
                            have HI : Hid ((Tryd.prog.info? 62).map (·.size) = some (mvCells 0 0 0).size) := Lib.hid (show (Tryd.prog.info? 62).map (·.size) = some (mvCells 0 0 0).size from by kernel_rfl)
                            go_wp2_with (first
                              | (go_at_call 32; ((with_reducible refine C1.out.mono ?_); rintro e w2 ⟨v, rfl, hO2, hb⟩; obtain ⟨g2, c2, rfl⟩ := own_some2 hO2 (by simp); have hp0 : w2.cell? ⟨g2, 0, none⟩ = some (.string (str p)) := (own_get hO2 (j := 0) rfl).1; have hq0 : w2.cell? ⟨g2, 1, none⟩ = some (.string (str q)) := (own_get hO2 (j := 1) rfl).1; have HO2 := Lib.hid hO2; have hB := Lib.hid (below_then hB.out hb); have hO := Lib.hid (own_below hO.out hb); have hW := Lib.hid (own_below hW.out hb); clear hO2 hb C1))
                              | (go_at_call 32; ((with_reducible refine (C2 _).out.mono ?_); rintro e w3 ⟨v, rfl, hO3, hb⟩; obtain ⟨g3, c3, rfl⟩ := own_some2 hO3 (by simp); have hx0 : w3.cell? ⟨g3, 0, none⟩ = some (.string (str x)) := (own_get hO3 (j := 0) rfl).1; have hy0 : w3.cell? ⟨g3, 1, none⟩ = some (.string (str y)) := (own_get hO3 (j := 1) rfl).1; have hq1 : w3.cell? ⟨g2, 1, none⟩ = some (.string (str q)) := (own_get (own_below HO2.out hb) (j := 1) rfl).1; have hB := Lib.hid (below_then hB.out hb); have hO := Lib.hid (own_below hO.out hb); have hW := Lib.hid (own_below hW.out hb); clear hO3 hb))
                              | (go_at_call 33; ((with_reducible refine (N1 _).out.mono ?_); rintro e w4 ⟨rfl, rfl⟩))
                              | (go_at_call 33; ((with_reducible refine (N2 _).out.mono ?_); rintro e w4 ⟨rfl, rfl⟩))
                              | (go_at_call 33; ((with_reducible refine (N3 _).out.mono ?_); rintro e w4 ⟨rfl, rfl⟩))
                              | (go_at_call 46; ((refine (CV _).out.mono ?_); rintro e w5 ⟨rfl, hb⟩; have hB := Lib.hid ((below_alloc hB.out _).trans (hb.mono (below_alloc hB.out _).size)); clear hb)))
                            exact bodyPost_ret (v := .tuple #[.slice (some ⟨w5.heap.size, 0, none⟩) 0 0, .int .i64 5]) (by simp [results, Tryd.results21, go_sem]) rfl (mvEnd_new EN.out hB.out)
                          · have EP := Lib.hid (HYES.out _ (parse_yes HPQ.out HXY.out ⟨q1, q2, q3, by omega, by omega, by omega, qm⟩))
                            have CV := fun w => Lib.hid (qm ▸ CV w)
                            clear qm q1 q2 q3
                            have HI : Hid ((Tryd.prog.info? 62).map (·.size) = some (mvCells 0 0 0).size) := Lib.hid (show (Tryd.prog.info? 62).map (·.size) = some (mvCells 0 0 0).size from by kernel_rfl)
                            go_wp2_with (first
                              | (go_at_call 32; ((with_reducible refine C1.out.mono ?_); rintro e w2 ⟨v, rfl, hO2, hb⟩; obtain ⟨g2, c2, rfl⟩ := own_some2 hO2 (by simp); have hp0 : w2.cell? ⟨g2, 0, none⟩ = some (.string (str p)) := (own_get hO2 (j := 0) rfl).1; have hq0 : w2.cell? ⟨g2, 1, none⟩ = some (.string (str q)) := (own_get hO2 (j := 1) rfl).1; have HO2 := Lib.hid hO2; have hB := Lib.hid (below_then hB.out hb); have hO := Lib.hid (own_below hO.out hb); have hW := Lib.hid (own_below hW.out hb); clear hO2 hb C1))
                              | (go_at_call 32; ((with_reducible refine (C2 _).out.mono ?_); rintro e w3 ⟨v, rfl, hO3, hb⟩; obtain ⟨g3, c3, rfl⟩ := own_some2 hO3 (by simp); have hx0 : w3.cell? ⟨g3, 0, none⟩ = some (.string (str x)) := (own_get hO3 (j := 0) rfl).1; have hy0 : w3.cell? ⟨g3, 1, none⟩ = some (.string (str y)) := (own_get hO3 (j := 1) rfl).1; have hq1 : w3.cell? ⟨g2, 1, none⟩ = some (.string (str q)) := (own_get (own_below HO2.out hb) (j := 1) rfl).1; have hB := Lib.hid (below_then hB.out hb); have hO := Lib.hid (own_below hO.out hb); have hW := Lib.hid (own_below hW.out hb); clear hO3 hb))
                              | (go_at_call 33; ((with_reducible refine (N1 _).out.mono ?_); rintro e w4 ⟨rfl, rfl⟩))
                              | (go_at_call 33; ((with_reducible refine (N2 _).out.mono ?_); rintro e w4 ⟨rfl, rfl⟩))
                              | (go_at_call 33; ((with_reducible refine (N3 _).out.mono ?_); rintro e w4 ⟨rfl, rfl⟩))
                              | (go_at_call 46; ((refine (CV _).out.mono ?_); rintro e w5 ⟨rfl, hb⟩; have HF := Lib.hid (blk_below (heap_alloc_new w3 _) hb); have hm0 : w5.cell? ⟨w3.heap.size, 0, none⟩ = some (.int .i8 (valD x)) := (blk_cell HF.out 0); have hm1 : w5.cell? ⟨w3.heap.size, 1, none⟩ = some (.int .i8 (valD y)) := (blk_cell HF.out 1); have hm2 : w5.cell? ⟨w3.heap.size, 2, none⟩ = some (.int .i16 (valD q)) := (blk_cell HF.out 2); have HO5 := Lib.hid (own_below (hO.out.alloc _) hb); have HW5 := Lib.hid (own_below (hW.out.alloc _) hb); have HB5 := Lib.hid ((below_alloc hB.out _).trans (hb.mono (below_alloc hB.out _).size)); clear hb))
                              | (at_builtin; refine ap1 rfl (.tmp 104) (.tmp 106) 39 62 rfl ((.agg #[.int .i8 0, .int .i8 0, .int .i16 0])) 3 4 w.heap.size Tryd.underlying39 (by kernel_rfl) rfl (by decide) u4 k (mvRow L) [.int .i8 (valD x), .int .i8 (valD y), .int .i16 (valD q)] rfl rfl (by simp) rfl rfl HO5.out HB5.out.size (by omega) (by omega) ?_; intro g6 d6 w6 hown hg6 hat; have HB6 := Lib.hid (below_grown HB5.out hg6 HO5.out (Nat.le_refl _) HB5.out.size); have HO6 := Lib.hid hown; have HW6 := Lib.hid (row_grown2 HW5.out HO5.out (by decide) hg6); clear hown hat hg6))
                            go_roundw
                            case rel => exact ⟨k + 1, L ++ [((valD x : Int), (valD y : Int), (valD q : Int))], by omega, by go_num, by simp [hLk], EP, by rw [mvRow_snoc]; exact HO6, HW6, HB6⟩
                            case measure => simp [intOf]; omega
            · have EN := Lib.hid (HMM.out.trans (HNO.out (parse_no2 HPQ.out h3)))
              have d2 : decide (((splitL 62 p).length : Int) = 2) = false := by simp; omega
              have d3 : (((splitL 62 p).length : Int) == 2) = false := by simp; omega
              go_wp2_with (first
                | (go_at_call 32; ((with_reducible refine C1.out.mono ?_); rintro e w2 ⟨v, rfl, hO2, hb⟩; obtain ⟨g2, c2, rfl⟩ := own_some2 hO2 (by simp); have hp0 : w2.cell? ⟨g2, 0, none⟩ = some (.string (str p)) := (own_get hO2 (j := 0) rfl).1; have hq0 : w2.cell? ⟨g2, 1, none⟩ = some (.string (str q)) := (own_get hO2 (j := 1) rfl).1; have HO2 := Lib.hid hO2; have hB := Lib.hid (below_then hB.out hb); have hO := Lib.hid (own_below hO.out hb); have hW := Lib.hid (own_below hW.out hb); clear hO2 hb C1))
                | (go_at_call 32; ((with_reducible refine (C2 _).out.mono ?_); rintro e w3 ⟨v, rfl, hO3, hb⟩; obtain ⟨g3, c3, rfl⟩ := own_some2 hO3 hp2; have hB := Lib.hid (below_then hB.out hb); clear hO3 hb)))
              exact bodyPost_ret (v := .tuple #[.slice (some ⟨w3.heap.size, 0, none⟩) 0 0, .int .i64 5]) (by simp [results, Tryd.results21, go_sem]) rfl (mvEnd_new EN.out hB.out)
          · have EN := Lib.hid (HMM.out.trans (HNO.out (parse_no1 h2)))
            have d2 : decide (((splitL 58 wd).length : Int) = 2) = false := by simp; omega
            have d3 : (((splitL 58 wd).length : Int) == 2) = false := by simp; omega
            go_wp2_with (go_at_call 32; ((with_reducible refine C1.out.mono ?_); rintro e w2 ⟨v, rfl, hO2, hb⟩; obtain ⟨g2, c2, rfl⟩ := own_some2 hO2 hp1; have hB := Lib.hid (below_then hB.out hb); clear hO2 hb))
            exact bodyPost_ret (v := .tuple #[.slice (some ⟨w2.heap.size, 0, none⟩) 0 0, .int .i64 5]) (by simp [results, Tryd.results21, go_sem]) rfl (mvEnd_new EN.out hB.out)
        · obtain rfl : k = P.length := by omega
          have d1 : decide ((P.length : Int) < (P.length : Int)) = false := by simp
          rw [List.take_length] at hM
          have EY := Lib.hid (HMM.out.trans hM.out)
          go_wp2
          exact bodyPost_ret (v := .tuple #[u4, .int .i64 0]) (by simp [results, Tryd.results21, go_sem]) rfl (mvEnd_some EY.out hLk.symm hO.out hB.out)
end Go.Proofs.YtdcemmhfbfogdaaDoor
