/- Texts laid together: AppOwn, ReadMv. -/
import Derived.Test.YtjhifpidbobmaaaGreatDoorMg28
import Derived.Deep.RegionLaw
import Derived.Deep.DeepAppendWide
import Derived.Lib.SliceRun
import Derived.Laws.IdiomCopy
import Derived.Test.YtjhifpidbobmaaaGreatDoorMg30
import Derived.Deep.RegionHeld3
import Derived.BigRegion
import Derived.Deep.QuietTactic
/- append of a read row onto a row of the call's own, as a row of the walk. -/
namespace Go.Proofs.YtjhifpidbobmaaaGreatDoor
open Go.RowKit
set_option linter.unusedVariables false
set_option linter.unusedSimpArgs false

/-- 'append', as a row of the walk. -/
theorem ev_append_row {P : Program} {ops : Array Oper} {rest : List Oper} {o : Oper} {a : Act} {w : World} {Q : Exit → Act → World → Prop} (hg : o.guard = none) (s x : Operand) (t : TypeId) (hop : o.op = Op.call { callee := Callee.builtin Builtin.append, args := #[s, x], argTypes := #[t, t] })
    (e : TypeId) (z : Value) (size bytes : Nat) (h1 : P.underlying t = some (.slice e)) (hinfo : (P.info? e).map (fun i => (i.zero, i.size, i.bytes)) = some (some z, size, bytes)) (h6 : z.cells.size = size) (h7 : 0 < size)
    (base : Nat) (v : Value) (n : Nat) (xs : List Value) (hs : a.eval s = v) (hown : w.ownsRow base e size v n xs)
    (ad : Addr) (m c : Nat) (news : List Value) (hx : a.eval x = .slice (some ad) m c) (hn : news.length = m * size) (hc : ∀ j u, news[j]? = some u → w.cell? (ad.add j) = some u) (h1c : ∀ u ∈ news, u.oneCell' = true)
    (b1 : n + m ≤ maxLen) (b2 : (n + m) * bytes ≤ 140737488355328) (hbase : base ≤ w.heap.size)
    (hK : ∀ v' w', w'.ownsRow base e size v' (n + m) (xs ++ news) → w.grownBy w' v.ownBlock → wpList P ops Q rest (a.put o.dst v') w') : wpList P ops Q (o :: rest) a w := by
  obtain ⟨i0, hi, hzz⟩ := Option.map_eq_some_iff.1 hinfo
  simp only [Prod.mk.injEq] at hzz
  obtain ⟨hz0, hz1, hz2⟩ := hzz
  refine wpList_plain hg fun K hK' => ?_
  obtain ⟨v', w', hrun, r1, r2, _⟩ := run_append_own (P := P) w base t o.type e i0 z size bytes h1 hi hz0 hz1 hz2 h6 h7 v n xs hown ad m c news hn hc h1c b1 b2 hbase
  unfold Oper.wp
  simp [execOp, hop, resolve, invoke, builtin, hs, hx, hrun, Result.andThen]
  exact hK' _ _ (hK v' w' r1 r2)
/-- A whole store, as a step of a region that draws. -/
theorem step_store_row {P : Program} {ops : Array Oper} {o : Oper} {a : Act} {w : World} {K : Act → World → Prop} {Q : Exit → Act → World → Prop} {E : Prop} (hg : o.guard = none) (ty : TypeId) (x y : Operand) (ho : o.op = .store ty x y)
    (g : Nat) (cells : Array Value) (hx : a.eval x = .pointer (some ⟨g, 0, none⟩)) (hy : a.eval y = .agg cells)
    (t : TypeId) (old : Array Value) (hgb : w.heap[g]? = some (.cells old t (0, 0))) (hi : (P.info? ty).map (·.size) = some cells.size)
    (hold : old.size = cells.size) (h1 : cells.all (·.oneCell') = true)
    (hK : ∀ w1, w1.heap[g]? = some (.cells cells t (0, 0)) → Tou g w w1 → K (a.put o.dst undef) w1) :
    if Region.wanted o (yielded ops a.tmps) = true then Oper.wp P o a w K Q else E := by
  rw [if_pos (by simp [Region.wanted, hg])]
  exact wp_store_row ty x y ho g cells hx hy t old hgb hi hold h1 (hK _ (setRow_heap _ _ _ _ _ _ hgb) (Tou.setRow _ _ _))
end Go.Proofs.YtjhifpidbobmaaaGreatDoor
/- A move read from its word: the program's function. -/
namespace Go.Proofs.YtjhifpidbobmaaaGreatDoor
open Go.RowKit
set_option linter.unusedVariables false
set_option linter.unusedSimpArgs false
set_option maxRecDepth 100000

/-- Two cells. -/
abbrev RS (g : Nat) (x y : Value) (w' : World) : Prop := w'.cell? ⟨g, 0, none⟩ = some x ∧ w'.cell? ⟨g, 1, none⟩ = some y
theorem rs_tou {g k : Nat} {x y : Value} {w' w1 : World} (ht : Tou k w' w1) (hk : g ≠ k) (h : RS g x y w') : RS g x y w1 :=
  ⟨(World.cell?_of_block (ht.block g hk)).trans h.1, (World.cell?_of_block (ht.block g hk)).trans h.2⟩
theorem cut_eq {b : UInt8} (x r : List UInt8) (h : b ∉ x) : Lib.cut (x ++ b :: r) [b] = (x, r, true) := by
  rcases index_mem b (x ++ b :: r) with ⟨_, h2⟩ | ⟨j, h1, y, s, h2, h3, h4⟩
  · exact absurd (by simp) h2
  · obtain ⟨e1, e2⟩ := parts_head h h3 h2
    subst e1 e2
    unfold Lib.cut
    rw [h1, if_pos (by omega)]
    simp [← h4]
theorem cut_len (t : List UInt8) (b : UInt8) : (Lib.cut t [b]).1.length ≤ t.length ∧ (Lib.cut t [b]).2.1.length ≤ t.length := by
  unfold Lib.cut
  split
  · simp only [List.length_take, List.length_drop]; omega
  · simp
theorem mvT_cut {a b g : Int} : Lib.cut (mvT a b g) [58] = (Lib.decDigits a.toNat ++ 62 :: Lib.decDigits b.toNat, Lib.decDigits g.toNat, true) := by
  have e : mvT a b g = (Lib.decDigits a.toNat ++ 62 :: Lib.decDigits b.toNat) ++ 58 :: Lib.decDigits g.toNat := by simp [mvT]
  rw [e]
  refine cut_eq _ _ ?_
  intro hm
  rcases List.mem_append.1 hm with hm | hm
  · exact dec_no2 (b := 58) (by decide) _ hm
  · rcases List.mem_cons.1 hm with hm | hm
    · exact absurd hm (by decide)
    · exact dec_no2 (b := 58) (by decide) _ hm
theorem mayMove_bd {a b : Int} (h : mayMove a b = true) : (0 ≤ a ∧ a ≤ 4) ∧ (0 ≤ b ∧ b ≤ 4) := by
  simp only [mayMove, Bool.or_eq_true, Bool.and_eq_true, beq_iff_eq] at h
  omega
def mvCells (a b g : Int) : Array Value := #[.int .i8 a, .int .i8 b, .int .i16 g]
theorem mv_one (a b g : Int) : (mvCells a b g).all (·.oneCell') = true := by simp [mvCells, Value.oneCell']
theorem flipv {P : Program} {f : FuncId} {args : Array Value} {w : World} {v : Value} (h : Calls P f args w fun e w' => e = .returned v ∧ w = w') : Calls P f args w fun e w' => e = .returned v ∧ w' = w := h.mono fun _ _ h => ⟨h.1, h.2.symm⟩
set_option maxHeartbeats 4000000 in
theorem c_readMove (t : List UInt8) (ht : t.length ≤ 1048576) : ∃ (a b g : Int) (ok : Bool), (ok = true → ((0 ≤ a ∧ a ≤ 4) ∧ (0 ≤ b ∧ b ≤ 4)) ∧ (-32768 ≤ g ∧ g ≤ 32767)) ∧ (∀ x y z : Int, okMove x y z = true → t = mvT x y z → ok = true ∧ a = x ∧ b = y ∧ g = z) ∧ ∀ w, Laid w →
    Calls Tryz.prog 33 #[.string (str t)] w fun e w' => e = .returned (.tuple #[.agg (mvCells a b g), .bool ok]) ∧ Below w.heap.size w w' := by
  obtain ⟨zs, one, hzb, hzn, hz2, hCS⟩ := c_split (Lib.cut t [58]).1 (Nat.le_trans (cut_len t 58).1 ht) 62 (by decide)
  obtain ⟨v, two, hvb, hv2, hCM⟩ := c_small16 (Lib.cut t [58]).2.1 (Nat.le_trans (cut_len t 58).2 ht)
  have hkn : ∀ x y z : Int, okMove x y z = true → t = mvT x y z → one = true ∧ two = true ∧ zs = [x, y] ∧ v = z ∧ mayMove x y = true := fun x y z hk e => by
    have hm := okMove_bd hk
    have h1 := hm.a; have h2 := hm.b; have h3 := hm.g
    rw [e, mvT_cut] at hz2 hv2
    obtain ⟨e1, e2⟩ := hz2 x.toNat y.toNat (by omega) (by omega) rfl
    obtain ⟨e3, e4⟩ := hv2 z.toNat (by omega) rfl
    rw [Int.toNat_of_nonneg h1.1, Int.toNat_of_nonneg h2.1] at e1
    rw [Int.toNat_of_nonneg (by omega)] at e4
    refine ⟨e2, e3, e1, e4, ?_⟩
    simp only [okMove, Bool.and_eq_true] at hk
    exact hk.1
  clear hz2 hv2
  have HI : ∀ a b g, Hid ((Tryz.prog.info? 46).map (·.size) = some (mvCells a b g).size) := fun a b g => Lib.hid (show (Tryz.prog.info? 46).map (·.size) = some (mvCells a b g).size from by kernel_rfl)
  have HB0 : ∀ w : World, Hid (Below w.heap.size w (w.alloc (.cells #[.int .i8 0, .int .i8 0, .int .i16 0] 46 (0, 0)))) := fun w => below_alloc (Below.refl _ _) _
  have HA0 : ∀ w : World, Hid ((w.alloc (.cells #[.int .i8 0, .int .i8 0, .int .i16 0] 46 (0, 0))).heap[w.heap.size]? = some (.cells (mvCells 0 0 0) 46 (0, 0))) := fun w => heap_alloc_new w (.cells #[.int .i8 0, .int .i8 0, .int .i16 0] 46 (0, 0))
  have hcut : ∀ w : World, Laid w → Hid (Calls Tryz.prog 61 #[.string (str t), .string ⟨#[58]⟩] (w.alloc (.cells #[.int .i8 0, .int .i8 0, .int .i16 0] 46 (0, 0))) fun e w' => e = .returned (.tuple #[.string (str (Lib.cut t [58]).1), .string (str (Lib.cut t [58]).2.1), .bool (Lib.cut t [58]).2.2]) ∧ Below w.heap.size w w' ∧ w'.heap[w.heap.size]? = some (.cells (mvCells 0 0 0) 46 (0, 0))) := fun w hL => by
    obtain ⟨m, hm⟩ := (hL.below (HB0 w).out).top
    have hd : (str t).data.toList = t := by simp [str]
    refine (Tryz.strings_Cut (str t) ⟨#[58]⟩ m _ (by rw [str_size]; omega) hm).mono fun e w' h => ?_
    obtain ⟨h1, n, rfl⟩ := h
    rw [hd] at h1
    exact ⟨h1, (HB0 w).out.trans (below_drewN (Below.refl _ _) _), (HA0 w).out⟩
  generalize hl : (Lib.cut t [58]).1 = l at *
  generalize hr : (Lib.cut t [58]).2.1 = r at *
  clear hl hr
  cases one
  · refine ⟨0, 0, 0, false, fun h => (by cases h), fun x y z hk e => (by cases (hkn x y z hk e).1), fun w hL => ?_⟩
    have HC := hcut w hL; have HL : Hid (Laid w) := hL; have HS := Lib.hid hCS; have HM := Lib.hid hCM; clear hCS hCM hcut hkn hL
    go_enter Tryz.func33, Tryz.ntmps33
    go_wp2_with (first
      | (go_at_call 61; ((with_reducible refine HC.out.mono ?_); rintro e w1 ⟨rfl, hb, ha⟩; have HB := Lib.hid hb; have HA := Lib.hid ha; clear hb ha))
      | (go_at_call 62; ((with_reducible refine (HS.out _ (HL.out.below HB.out)).mono ?_); rintro e w2 ⟨v2, rfl, hO, hb⟩; obtain ⟨A2, c2, rfl, hA2⟩ := own_form hO; have HA := Lib.hid (blk_below HA.out hb); have HO := Lib.hid (own_mono hO HB.out.size); have HB := Lib.hid (below_then HB.out hb); clear hb hO))
      | (go_at_call 63; ((with_reducible refine (HM.out _ (HL.out.below HB.out)).mono ?_); rintro e w3 ⟨rfl, hb⟩; have HA := Lib.hid (blk_below HA.out hb); have HO := Lib.hid (own_below HO.out hb); have HB := Lib.hid (below_then HB.out hb); clear hb)))
    go_quiet (fail)
    go_wp2_with (refine ev_store_row rfl 46 (.tmp 2) (.tmp 48) rfl w.heap.size (mvCells 0 0 0) rfl rfl 46 (mvCells 0 0 0) ?_ (HI _ _ _).out rfl (mv_one _ _ _) ?_; (exact HA.out); intro w6 hblk ht; have HR := Lib.hid hblk; clear hblk)
    exact bodyPost_ret (v := .tuple #[.agg (mvCells 0 0 0), .bool false]) (results_ct rfl _ _ w.heap.size 46 (mvCells 0 0 0) (0, 0) _ rfl HR.out Tryz.underlying46 rfl (HI _ _ _).out rfl) rfl ⟨rfl, (HB.out.trans (below_drewN (Below.refl _ _) _)).trans (ht.below (Nat.le_refl _))⟩
  · cases two
    · refine ⟨0, 0, 0, false, fun h => (by cases h), fun x y z hk e => (by cases (hkn x y z hk e).2.1), fun w hL => ?_⟩
      have HC := hcut w hL; have HL : Hid (Laid w) := hL; have HS := Lib.hid hCS; have HM := Lib.hid hCM; clear hCS hCM hcut hkn hL
      go_enter Tryz.func33, Tryz.ntmps33
      go_wp2_with (first
      | (go_at_call 61; ((with_reducible refine HC.out.mono ?_); rintro e w1 ⟨rfl, hb, ha⟩; have HB := Lib.hid hb; have HA := Lib.hid ha; clear hb ha))
      | (go_at_call 62; ((with_reducible refine (HS.out _ (HL.out.below HB.out)).mono ?_); rintro e w2 ⟨v2, rfl, hO, hb⟩; obtain ⟨A2, c2, rfl, hA2⟩ := own_form hO; have HA := Lib.hid (blk_below HA.out hb); have HO := Lib.hid (own_mono hO HB.out.size); have HB := Lib.hid (below_then HB.out hb); clear hb hO))
      | (go_at_call 63; ((with_reducible refine (HM.out _ (HL.out.below HB.out)).mono ?_); rintro e w3 ⟨rfl, hb⟩; have HA := Lib.hid (blk_below HA.out hb); have HO := Lib.hid (own_below HO.out hb); have HB := Lib.hid (below_then HB.out hb); clear hb)))
      go_quiet (fail)
      go_wp2_with (refine ev_store_row rfl 46 (.tmp 2) (.tmp 48) rfl w.heap.size (mvCells 0 0 0) rfl rfl 46 (mvCells 0 0 0) ?_ (HI _ _ _).out rfl (mv_one _ _ _) ?_; (exact HA.out); intro w6 hblk ht; have HR := Lib.hid hblk; clear hblk)
      exact bodyPost_ret (v := .tuple #[.agg (mvCells 0 0 0), .bool false]) (results_ct rfl _ _ w.heap.size 46 (mvCells 0 0 0) (0, 0) _ rfl HR.out Tryz.underlying46 rfl (HI _ _ _).out rfl) rfl ⟨rfl, (HB.out.trans (below_drewN (Below.refl _ _) _)).trans (ht.below (Nat.le_refl _))⟩
    · by_cases hn : zs.length = 2
      · obtain ⟨z0, z1, rfl⟩ : ∃ z0 z1, zs = [z0, z1] := by
          match zs, hn with
          | [z0, z1], _ => exact ⟨z0, z1, rfl⟩
        have b0 := hzb z0 (by simp)
        have b1 := hzb z1 (by simp)
        cases qm : mayMove z0 z1
        · refine ⟨0, 0, 0, false, fun h => (by cases h), fun x y z hk e => ?_, fun w hL => ?_⟩
          · obtain ⟨_, _, e3, _, e5⟩ := hkn x y z hk e
            injection e3 with e3 e4
            injection e4 with e4 _
            rw [e3, e4, e5] at qm
            cases qm
          have HC := hcut w hL; have HL : Hid (Laid w) := hL; have HS := Lib.hid hCS; have HM := Lib.hid hCM; clear hCS hCM hcut hkn hL
          have CY : ∀ w, Hid (Calls Tryz.prog 25 #[.int .i64 z0, .int .i64 z1] w fun e w' => e = .returned (.bool false) ∧ w' = w) := fun w => by
            have := c_iMayMove z0 z1 w
            rw [qm] at this
            exact flipv this
          clear qm
          go_enter Tryz.func33, Tryz.ntmps33
          go_wp2_with (first
      | (go_at_call 61; ((with_reducible refine HC.out.mono ?_); rintro e w1 ⟨rfl, hb, ha⟩; have HB := Lib.hid hb; have HA := Lib.hid ha; clear hb ha))
      | (go_at_call 62; ((with_reducible refine (HS.out _ (HL.out.below HB.out)).mono ?_); rintro e w2 ⟨v2, rfl, hO, hb⟩; obtain ⟨A2, c2, rfl, hA2⟩ := own_form hO; obtain ⟨g2, rfl, hbg⟩ := hA2 (by simp); have HNE : Hid (g2 ≠ w.heap.size) := (show g2 ≠ w.heap.size from by have := blk_lt HA.out; omega); have HA := Lib.hid (blk_below HA.out hb); have HO := Lib.hid (own_mono hO HB.out.size); have HB := Lib.hid (below_then HB.out hb); clear hb hO))
      | (go_at_call 63; ((with_reducible refine (HM.out _ (HL.out.below HB.out)).mono ?_); rintro e w3 ⟨rfl, hb⟩; have HA := Lib.hid (blk_below HA.out hb); have HO := Lib.hid (own_below HO.out hb); have HB := Lib.hid (below_then HB.out hb); have x0 : w3.cell? ⟨g2, 0, none⟩ = some (.int .i64 z0) := (own_get HO.out (j := 0) rfl).1; have x1 : w3.cell? ⟨g2, 1, none⟩ = some (.int .i64 z1) := (own_get HO.out (j := 1) rfl).1; clear hb)))
          go_quiet (first | (go_at_call 25; exact Calls.quiet_of_same (CY _).out))
          go_wp2_with (refine ev_store_row rfl 46 (.tmp 2) (.tmp 48) rfl w.heap.size (mvCells 0 0 0) rfl rfl 46 (mvCells 0 0 0) ?_ (HI _ _ _).out rfl (mv_one _ _ _) ?_; (exact HA.out); intro w6 hblk ht; have HR := Lib.hid hblk; clear hblk)
          exact bodyPost_ret (v := .tuple #[.agg (mvCells 0 0 0), .bool false]) (results_ct rfl _ _ w.heap.size 46 (mvCells 0 0 0) (0, 0) _ rfl HR.out Tryz.underlying46 rfl (HI _ _ _).out rfl) rfl ⟨rfl, (HB.out.trans (below_drewN (Below.refl _ _) _)).trans (ht.below (Nat.le_refl _))⟩
        · refine ⟨z0, z1, v, true, fun _ => ⟨mayMove_bd qm, hvb⟩, fun x y z hk e => ?_, fun w hL => ?_⟩
          · obtain ⟨_, _, e3, e4, _⟩ := hkn x y z hk e
            injection e3 with e3 e5
            injection e5 with e5 _
            exact ⟨rfl, e3, e5, e4⟩
          have HC := hcut w hL; have HL : Hid (Laid w) := hL; have HS := Lib.hid hCS; have HM := Lib.hid hCM; clear hCS hCM hcut hkn hL
          have CY : ∀ w, Hid (Calls Tryz.prog 25 #[.int .i64 z0, .int .i64 z1] w fun e w' => e = .returned (.bool true) ∧ w' = w) := fun w => by
            have := c_iMayMove z0 z1 w
            rw [qm] at this
            exact flipv this
          have hmb := mayMove_bd qm
          have wz0 : IntKind.i8.wrap z0 = z0 := IntWalk.i8_in _ (by omega)
          have wz1 : IntKind.i8.wrap z1 = z1 := IntWalk.i8_in _ (by omega)
          have wv : IntKind.i16.wrap v = v := IntWalk.i16_in _ (by omega)
          clear qm
          go_enter Tryz.func33, Tryz.ntmps33
          go_wp2_with (first
      | (go_at_call 61; ((with_reducible refine HC.out.mono ?_); rintro e w1 ⟨rfl, hb, ha⟩; have HB := Lib.hid hb; have HA := Lib.hid ha; clear hb ha))
      | (go_at_call 62; ((with_reducible refine (HS.out _ (HL.out.below HB.out)).mono ?_); rintro e w2 ⟨v2, rfl, hO, hb⟩; obtain ⟨A2, c2, rfl, hA2⟩ := own_form hO; obtain ⟨g2, rfl, hbg⟩ := hA2 (by simp); have HNE : Hid (g2 ≠ w.heap.size) := (show g2 ≠ w.heap.size from by have := blk_lt HA.out; omega); have HA := Lib.hid (blk_below HA.out hb); have HO := Lib.hid (own_mono hO HB.out.size); have HB := Lib.hid (below_then HB.out hb); clear hb hO))
      | (go_at_call 63; ((with_reducible refine (HM.out _ (HL.out.below HB.out)).mono ?_); rintro e w3 ⟨rfl, hb⟩; have HA := Lib.hid (blk_below HA.out hb); have HO := Lib.hid (own_below HO.out hb); have HB := Lib.hid (below_then HB.out hb); have x0 : w3.cell? ⟨g2, 0, none⟩ = some (.int .i64 z0) := (own_get HO.out (j := 0) rfl).1; have x1 : w3.cell? ⟨g2, 1, none⟩ = some (.int .i64 z1) := (own_get HO.out (j := 1) rfl).1; clear hb)))
          go_quiet (first | (go_at_call 25; exact Calls.quiet_of_same (CY _).out))
          go_wp2
          have HAD : Hid ((w3.drewN nq).heap[w.heap.size]? = some (.cells (mvCells 0 0 0) 46 (0, 0))) := HA.out
          have HBD : Hid (Below w.heap.size w (w3.drewN nq)) := HB.out.trans (below_drewN (Below.refl _ _) _)
          have y0 : (w3.drewN nq).cell? ⟨g2, 0, none⟩ = some (.int .i64 z0) := x0
          have y1 : (w3.drewN nq).cell? ⟨g2, 1, none⟩ = some (.int .i64 z1) := x1
          generalize w3.drewN nq = wd at *
          have haa : wd.heap[w.heap.size]? = some (.cells (mvCells 0 0 0) 46 (0, 0)) := HAD.out
          have hx0a : wd.cell? ⟨w.heap.size, 0, none⟩ = some (.int .i8 0) := blk_cell haa 0
          have hx1a : wd.cell? ⟨w.heap.size, 1, none⟩ = some (.int .i8 0) := blk_cell haa 1
          have hx2a : wd.cell? ⟨w.heap.size, 2, none⟩ = some (.int .i16 0) := blk_cell haa 2
          have hf0a := blk_frozen haa 0
          have hf1a := blk_frozen haa 1
          have hf2a := blk_frozen haa 2
          have hba := blk_set haa 0 (.int .i8 z0)
          have hy1a : (wd.setCell ⟨w.heap.size, 0, none⟩ (.int .i8 z0)).cell? ⟨w.heap.size, 1, none⟩ = some (.int .i8 0) := blk_cell hba 1
          have hg1a : (wd.setCell ⟨w.heap.size, 0, none⟩ (.int .i8 z0)).frozen? ⟨w.heap.size, 1, none⟩ = false := blk_frozen hba 1
          have hca := blk_set hba 1 (.int .i8 z1)
          have hz2a : ((wd.setCell ⟨w.heap.size, 0, none⟩ (.int .i8 z0)).setCell ⟨w.heap.size, 1, none⟩ (.int .i8 z1)).cell? ⟨w.heap.size, 2, none⟩ = some (.int .i16 0) := blk_cell hca 2
          have hh2a : ((wd.setCell ⟨w.heap.size, 0, none⟩ (.int .i8 z0)).setCell ⟨w.heap.size, 1, none⟩ (.int .i8 z1)).frozen? ⟨w.heap.size, 2, none⟩ = false := blk_frozen hca 2
          have HDa : Hid ((((wd.setCell ⟨w.heap.size, 0, none⟩ (.int .i8 z0)).setCell ⟨w.heap.size, 1, none⟩ (.int .i8 z1)).setCell ⟨w.heap.size, 2, none⟩ (.int .i16 v)).heap[w.heap.size]? = some (.cells (mvCells z0 z1 v) 46 (0, 0))) := blk_set hca 2 (.int .i16 v)
          clear haa hba hca
          have hab : wd.drew.heap[w.heap.size]? = some (.cells (mvCells 0 0 0) 46 (0, 0)) := HAD.out
          have hx0b : wd.drew.cell? ⟨w.heap.size, 0, none⟩ = some (.int .i8 0) := blk_cell hab 0
          have hx1b : wd.drew.cell? ⟨w.heap.size, 1, none⟩ = some (.int .i8 0) := blk_cell hab 1
          have hx2b : wd.drew.cell? ⟨w.heap.size, 2, none⟩ = some (.int .i16 0) := blk_cell hab 2
          have hf0b := blk_frozen hab 0
          have hf1b := blk_frozen hab 1
          have hf2b := blk_frozen hab 2
          have hbb := blk_set hab 0 (.int .i8 z0)
          have hy1b : (wd.drew.setCell ⟨w.heap.size, 0, none⟩ (.int .i8 z0)).cell? ⟨w.heap.size, 1, none⟩ = some (.int .i8 0) := blk_cell hbb 1
          have hg1b : (wd.drew.setCell ⟨w.heap.size, 0, none⟩ (.int .i8 z0)).frozen? ⟨w.heap.size, 1, none⟩ = false := blk_frozen hbb 1
          have hcb := blk_set hbb 1 (.int .i8 z1)
          have hz2b : ((wd.drew.setCell ⟨w.heap.size, 0, none⟩ (.int .i8 z0)).setCell ⟨w.heap.size, 1, none⟩ (.int .i8 z1)).cell? ⟨w.heap.size, 2, none⟩ = some (.int .i16 0) := blk_cell hcb 2
          have hh2b : ((wd.drew.setCell ⟨w.heap.size, 0, none⟩ (.int .i8 z0)).setCell ⟨w.heap.size, 1, none⟩ (.int .i8 z1)).frozen? ⟨w.heap.size, 2, none⟩ = false := blk_frozen hcb 2
          have HDb : Hid ((((wd.drew.setCell ⟨w.heap.size, 0, none⟩ (.int .i8 z0)).setCell ⟨w.heap.size, 1, none⟩ (.int .i8 z1)).setCell ⟨w.heap.size, 2, none⟩ (.int .i16 v)).heap[w.heap.size]? = some (.cells (mvCells z0 z1 v) 46 (0, 0))) := blk_set hcb 2 (.int .i16 v)
          clear hab hbb hcb
          have HXX : Hid (RS g2 (.int .i64 z0) (.int .i64 z1) wd.drew) := ⟨y0, y1⟩
          go_region_held3 (fun w' => w'.cell? ⟨g2, 0, none⟩ = some (.int .i64 z0) ∧ w'.cell? ⟨g2, 1, none⟩ = some (.int .i64 z1))
            (first
              | exact HXX.out
              | exact rs_tou (Tou.setCell _ _ _ _) HNE.out (rs_tou (Tou.setCell _ _ _ _) HNE.out (rs_tou (Tou.setCell _ _ _ _) HNE.out HXX.out)))
            (fail)
          all_goals
            go_wp2
            exact bodyPost_ret (v := .tuple #[.agg (mvCells z0 z1 v), .bool true]) (results_ct rfl _ _ w.heap.size 46 (mvCells z0 z1 v) (0, 0) _ rfl (by exact HDa.out) Tryz.underlying46 rfl (HI _ _ _).out rfl) rfl ⟨rfl, below_drew (((HBD.out.trans ((Tou.setCell wd w.heap.size 0 (.int .i8 z0)).below (Nat.le_refl _))).trans ((Tou.setCell _ w.heap.size 1 (.int .i8 z1)).below (Nat.le_refl _))).trans ((Tou.setCell _ w.heap.size 2 (.int .i16 v)).below (Nat.le_refl _)))⟩
      · refine ⟨0, 0, 0, false, fun h => (by cases h), fun x y z hk e => ?_, fun w hL => ?_⟩
        · obtain ⟨_, _, e3, _⟩ := hkn x y z hk e
          rw [e3] at hn
          exact absurd rfl hn
        have HC := hcut w hL; have HL : Hid (Laid w) := hL; have HS := Lib.hid hCS; have HM := Lib.hid hCM; clear hCS hCM hcut hkn hL
        have dn : ((zs.length : Int) != 2) = true := by simp; omega
        have dn2 : decide ((zs.length : Int) = 2) = false := by simp; omega
        go_enter Tryz.func33, Tryz.ntmps33
        go_wp2_with (first
      | (go_at_call 61; ((with_reducible refine HC.out.mono ?_); rintro e w1 ⟨rfl, hb, ha⟩; have HB := Lib.hid hb; have HA := Lib.hid ha; clear hb ha))
      | (go_at_call 62; ((with_reducible refine (HS.out _ (HL.out.below HB.out)).mono ?_); rintro e w2 ⟨v2, rfl, hO, hb⟩; obtain ⟨A2, c2, rfl, hA2⟩ := own_form hO; have HA := Lib.hid (blk_below HA.out hb); have HO := Lib.hid (own_mono hO HB.out.size); have HB := Lib.hid (below_then HB.out hb); clear hb hO))
      | (go_at_call 63; ((with_reducible refine (HM.out _ (HL.out.below HB.out)).mono ?_); rintro e w3 ⟨rfl, hb⟩; have HA := Lib.hid (blk_below HA.out hb); have HO := Lib.hid (own_below HO.out hb); have HB := Lib.hid (below_then HB.out hb); clear hb)))
        go_quiet (fail)
        go_wp2_with (refine ev_store_row rfl 46 (.tmp 2) (.tmp 48) rfl w.heap.size (mvCells 0 0 0) rfl rfl 46 (mvCells 0 0 0) ?_ (HI _ _ _).out rfl (mv_one _ _ _) ?_; (exact HA.out); intro w6 hblk ht; have HR := Lib.hid hblk; clear hblk)
        exact bodyPost_ret (v := .tuple #[.agg (mvCells 0 0 0), .bool false]) (results_ct rfl _ _ w.heap.size 46 (mvCells 0 0 0) (0, 0) _ rfl HR.out Tryz.underlying46 rfl (HI _ _ _).out rfl) rfl ⟨rfl, (HB.out.trans (below_drewN (Below.refl _ _) _)).trans (ht.below (Nat.le_refl _))⟩
end Go.Proofs.YtjhifpidbobmaaaGreatDoor
