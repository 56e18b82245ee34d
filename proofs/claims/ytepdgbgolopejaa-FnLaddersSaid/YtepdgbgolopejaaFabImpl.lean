/- Rows of stitches: the program's functions. -/
import Derived.Test.YtepdgbgolopejaaFabSpec
namespace Go.Proofs.Ytepdgbgolopejaa
open Go.RowKit
set_option linter.unusedVariables false
set_option linter.unusedSimpArgs false
set_option maxRecDepth 100000

theorem st_info : (Try.prog.info? 71).map (·.size) = some 3 := by kernel_rfl
def stCells (a : Int × Int × Int) : Array Value := #[.int .i64 a.1, .int .i64 a.2.1, .int .i64 a.2.2]
theorem stCells_size (a : Int × Int × Int) : (stCells a).size = 3 := rfl
theorem st_one (a : Int × Int × Int) : (stCells a).all (·.oneCell') = true := by simp [stCells, Value.oneCell']
theorem st_i (a : Int × Int × Int) : (Try.prog.info? 71).map (·.size) = some (stCells a).size := st_info
theorem stV_some {c : UInt8} {s : Int × Int × Int} (h : stT c = some s) : stV c = s ∧ (stT c).isSome = true := by simp [stV, h]
theorem stV_none {c : UInt8} (h : stT c = none) : stV c = (0, 0, 0) ∧ (stT c).isSome = false := by simp [stV, h]
set_option maxHeartbeats 2000000 in
theorem c_stitchOf (c : UInt8) (w : World) : Calls Try.prog 62 #[.int .u8 (c.toNat : Int)] w fun e w' => e = .returned (.tuple #[.agg (stCells (stV c)), .bool (stT c).isSome]) ∧ Below w.heap.size w w' := by
  have e1 := u8_eq c 107 107 rfl
  have e2 := u8_eq c 100 100 rfl
  have e3 := u8_eq c 105 105 rfl
  have e4 := u8_eq c 111 111 rfl
  have e5 := u8_eq c 98 98 rfl
  have HI : Hid ((Try.prog.info? 71).map (·.size) = some 3) := st_info
  have hA := heap_alloc_new w (.cells #[.int .i64 0, .int .i64 0, .int .i64 0] 71 (0, 0))
  have HA := Lib.hid hA
  clear hA
  by_cases h1 : c = 107
  · have d1 : ((c.toNat : Int) == 107) = true := e1.trans (by simp [h1])
    have E := Lib.hid (stV_some (c := c) (s := (1, 1, 3)) (by subst h1; rfl))
    clear e1 e2 e3 e4 e5
    go_enter Try.func62, Try.ntmps62
    go_wp2
    exact bodyPost_ret (v := .tuple #[.agg #[.int .i64 1, .int .i64 1, .int .i64 3], .bool true]) (results_ct rfl _ _ w.heap.size 71 #[.int .i64 1, .int .i64 1, .int .i64 3] (0, 0) _ rfl (heap_alloc_new w _) Try.underlying71 rfl HI.out rfl) rfl ⟨by rw [E.out.1, E.out.2]; rfl, below_alloc (Below.refl _ _) _⟩
  · have d1 : ((c.toNat : Int) == 107) = false := e1.trans (by simp [h1])
    by_cases h2 : c = 100
    · have d2 : ((c.toNat : Int) == 100) = true := e2.trans (by simp [h2])
      have E := Lib.hid (stV_some (c := c) (s := (2, 1, 4)) (by subst h2; rfl))
      clear e1 e2 e3 e4 e5
      go_enter Try.func62, Try.ntmps62
      go_wp2
      exact bodyPost_ret (v := .tuple #[.agg #[.int .i64 2, .int .i64 1, .int .i64 4], .bool true]) (results_ct rfl _ _ w.heap.size 71 #[.int .i64 2, .int .i64 1, .int .i64 4] (0, 0) _ rfl (heap_alloc_new w _) Try.underlying71 rfl HI.out rfl) rfl ⟨by rw [E.out.1, E.out.2]; rfl, below_alloc (Below.refl _ _) _⟩
    · have d2 : ((c.toNat : Int) == 100) = false := e2.trans (by simp [h2])
      by_cases h3 : c = 105
      · have d3 : ((c.toNat : Int) == 105) = true := e3.trans (by simp [h3])
        have E := Lib.hid (stV_some (c := c) (s := (1, 2, 6)) (by subst h3; rfl))
        clear e1 e2 e3 e4 e5
        go_enter Try.func62, Try.ntmps62
        go_wp2
        exact bodyPost_ret (v := .tuple #[.agg #[.int .i64 1, .int .i64 2, .int .i64 6], .bool true]) (results_ct rfl _ _ w.heap.size 71 #[.int .i64 1, .int .i64 2, .int .i64 6] (0, 0) _ rfl (heap_alloc_new w _) Try.underlying71 rfl HI.out rfl) rfl ⟨by rw [E.out.1, E.out.2]; rfl, below_alloc (Below.refl _ _) _⟩
      · have d3 : ((c.toNat : Int) == 105) = false := e3.trans (by simp [h3])
        by_cases h4 : c = 111
        · have d4 : ((c.toNat : Int) == 111) = true := e4.trans (by simp [h4])
          have E := Lib.hid (stV_some (c := c) (s := (0, 1, 4)) (by subst h4; rfl))
          clear e1 e2 e3 e4 e5
          go_enter Try.func62, Try.ntmps62
          go_wp2
          exact bodyPost_ret (v := .tuple #[.agg #[.int .i64 0, .int .i64 1, .int .i64 4], .bool true]) (results_ct rfl _ _ w.heap.size 71 #[.int .i64 0, .int .i64 1, .int .i64 4] (0, 0) _ rfl (heap_alloc_new w _) Try.underlying71 rfl HI.out rfl) rfl ⟨by rw [E.out.1, E.out.2]; rfl, below_alloc (Below.refl _ _) _⟩
        · have d4 : ((c.toNat : Int) == 111) = false := e4.trans (by simp [h4])
          by_cases h5 : c = 98
          · have d5 : ((c.toNat : Int) == 98) = true := e5.trans (by simp [h5])
            have E := Lib.hid (stV_some (c := c) (s := (1, 0, 5)) (by subst h5; rfl))
            clear e1 e2 e3 e4 e5
            go_enter Try.func62, Try.ntmps62
            go_wp2
            exact bodyPost_ret (v := .tuple #[.agg #[.int .i64 1, .int .i64 0, .int .i64 5], .bool true]) (results_ct rfl _ _ w.heap.size 71 #[.int .i64 1, .int .i64 0, .int .i64 5] (0, 0) _ rfl (heap_alloc_new w _) Try.underlying71 rfl HI.out rfl) rfl ⟨by rw [E.out.1, E.out.2]; rfl, below_alloc (Below.refl _ _) _⟩
          · have d5 : ((c.toNat : Int) == 98) = false := e5.trans (by simp [h5])
            have E := Lib.hid (stV_none (c := c) (by simp [stT, h1, h2, h3, h4, h5]))
            clear e1 e2 e3 e4 e5
            go_enter Try.func62, Try.ntmps62
            go_wp2
            exact bodyPost_ret (v := .tuple #[.agg #[.int .i64 0, .int .i64 0, .int .i64 0], .bool false]) (results_ct rfl _ _ w.heap.size 71 #[.int .i64 0, .int .i64 0, .int .i64 0] (0, 0) _ rfl (heap_alloc_new w _) Try.underlying71 rfl HI.out rfl) rfl ⟨by rw [E.out.1, E.out.2]; rfl, below_alloc (Below.refl _ _) _⟩
theorem stitch_u8 (w : World) (c : UInt8) (s : Int × Int × Int) (h : stT c = some s) : Calls Try.prog 62 #[.int .u8 (c.toNat : Int)] w fun e w' => e = .returned (.tuple #[.agg #[.int .i64 s.1, .int .i64 s.2.1, .int .i64 s.2.2], .bool true]) ∧ Below w.heap.size w w' := by
  have := c_stitchOf c w
  rw [(stV_some h).1, (stV_some h).2] at this
  exact this
theorem stitch_no (w : World) (c : UInt8) (h : stT c = none) : Calls Try.prog 62 #[.int .u8 (c.toNat : Int)] w fun e w' => e = .returned (.tuple #[.agg #[.int .i64 0, .int .i64 0, .int .i64 0], .bool false]) ∧ Below w.heap.size w w' := by
  have := c_stitchOf c w
  rw [(stV_none h).1, (stV_none h).2] at this
  exact this
set_option maxHeartbeats 2000000 in
theorem c_rowOf (l : List UInt8) (hl : l.length ≤ 1048576) (w : World) :
    Calls Try.prog 47 #[.string (str l)] w fun e w' => e = .returned (.tuple #[.agg (stCells (rowV l)), .bool (rowS l).isSome]) ∧ Below w.heap.size w w' := by
  have hsz : (str l).size = l.length := str_size l
  have HI := fun a => Lib.hid (st_i a)
  have hR := blk_alloc (heap_alloc_new w (.cells (stCells (0, 0, 0)) 71 (0, 0))) (.cells (stCells (0, 0, 0)) 71 (0, 0))
  have hA := heap_alloc_new (w.alloc (.cells (stCells (0, 0, 0)) 71 (0, 0))) (.cells (stCells (0, 0, 0)) 71 (0, 0))
  rw [World.size_alloc] at hA
  have HR := Lib.hid hR
  have HA := Lib.hid hA
  clear hR hA
  go_enter Try.func47, Try.ntmps47
  go_wp2
  go_loopw [10] (fun i wr => ∃ k : Nat, k ≤ l.length ∧ i = .int .i64 k ∧ ∃ s : Int × Int × Int, Hid (rowS (l.take k) = some s) ∧ Hid (wr.heap[w.heap.size]? = some (.cells (stCells (0, 0, 0)) 71 (0, 0))) ∧ Hid (wr.heap[w.heap.size + 1]? = some (.cells (stCells s) 71 (0, 0))) ∧ Hid (Below w.heap.size w wr)) (fun i _ => l.length - (intOf i).toNat)
  case atStart => exact ⟨0, by omega, rfl, (0, 0, 0), rfl, HR, HA, below_alloc (below_alloc (Below.refl _ _) _) _⟩
  case round =>
    obtain ⟨k, hk, rfl, s, HS, hR, hA, hB⟩ := hrel
    have z1 := blk_lt hA.out
    by_cases hlt : k < l.length
    · have d1 : decide ((k : Int) < (l.length : Int)) = true := by simp; omega
      obtain ⟨c, hcc⟩ : ∃ c, l[k]'hlt = c := ⟨_, rfl⟩
      have hgk : ∀ h, (str l)[k]'h = c := fun h => (str_get l k h hlt).trans hcc
      have hb := rowS_bd _ _ HS.out
      have hlk : (l.take k).length ≤ k := by rw [List.length_take]; omega
      have HN := Lib.hid (rowS_take hlt)
      rw [hcc] at HN
      clear hcc
      cases hc : stT c with
      | none =>
        have CT := fun w => Lib.hid (stitch_no w c hc)
        have HR' : Hid (rowS l = none) := rowS_none (k := k + 1) (by rw [HN.out, HS.out]; simp [stAdd, hc])
        have E := Lib.hid (rowV_none HR'.out)
        clear hc HN
        go_wp2_with (first
          | (go_at_call 62; ((with_reducible refine (CT _).out.mono ?_); rintro e w1 ⟨rfl, hb1⟩; have hR1 := Lib.hid (blk_below hR.out hb1); have hB1 := Lib.hid (below_then hB.out hb1)))
          | (refine ev_store_row rfl 71 (.tmp 2) (.tmp 22) rfl w.heap.size (stCells (0, 0, 0)) rfl rfl 71 (stCells (0, 0, 0)) ?_ (HI _).out rfl (st_one _) ?_; (exact blk_alloc hR1.out _); intro w6 hblk ht; have hR3 := Lib.hid hblk; clear hblk))
        exact bodyPost_ret (v := .tuple #[.agg (stCells (0, 0, 0)), .bool false]) (results_ct rfl _ _ w.heap.size 71 (stCells (0, 0, 0)) (0, 0) _ rfl hR3.out Try.underlying71 rfl (HI _).out rfl) rfl ⟨by rw [E.out.1, E.out.2], (hB1.out.alloc hB1.out.size _).trans (ht.below (by omega))⟩
      | some s2 =>
        have CT := fun w => Lib.hid (stitch_u8 w c s2 hc)
        have h2 := stT_bd hc
        have HN : Hid (rowS (l.take (k + 1)) = some (s.1 + s2.1, s.2.1 + s2.2.1, s.2.2 + s2.2.2)) := by rw [Hid, HN.out, HS.out]; simp [stAdd, hc]
        clear hc
        go_wp2_with (first
          | (go_at_call 62; ((with_reducible refine (CT _).out.mono ?_); rintro e w1 ⟨rfl, hb1⟩; have hR1 := Lib.hid (blk_below hR.out hb1); have hA1 := Lib.hid (blk_below hA.out hb1); have x0 : w1.cell? ⟨w.heap.size + 1, 0, none⟩ = some (.int .i64 s.1) := (blk_cell hA1.out 0); have x1 : w1.cell? ⟨w.heap.size + 1, 1, none⟩ = some (.int .i64 s.2.1) := (blk_cell hA1.out 1); have x2 : w1.cell? ⟨w.heap.size + 1, 2, none⟩ = some (.int .i64 s.2.2) := (blk_cell hA1.out 2); have z3 : w.heap.size + 1 < w1.heap.size := (blk_lt hA1.out); have hB1 := Lib.hid (below_then hB.out hb1)))
          | (refine ev_store_row rfl 71 (.tmp 4) (.tmp 38) rfl (w.heap.size + 1) (stCells (s.1 + s2.1, s.2.1 + s2.2.1, s.2.2 + s2.2.2)) rfl rfl 71 (stCells s) ?_ (HI _).out rfl (st_one _) ?_; (exact blk_alloc hA1.out _); intro w6 hblk ht; have hA3 := Lib.hid hblk; have hR3 := Lib.hid ((ht.block _ (by omega)).trans (blk_alloc hR1.out _)); clear hblk))
        go_roundw
        case rel => exact ⟨k + 1, by omega, by go_num, _, HN, hR3, hA3, (hB1.out.alloc hB1.out.size _).trans (ht.below (by omega))⟩
        case measure => simp [intOf]; omega
    · obtain rfl : k = l.length := by omega
      have d1 : decide ((l.length : Int) < (l.length : Int)) = false := by simp
      rw [List.take_length] at HS
      have E := Lib.hid (rowV_some HS.out)
      go_wp2_with (first
        | (refine wpList_load_row rfl 71 (.tmp 4) rfl (w.heap.size + 1) rfl 71 _ (0, 0) _ hA.out Try.underlying71 rfl (HI s).out ?_)
        | (refine ev_store_row rfl 71 (.tmp 2) (.tmp 40) rfl w.heap.size (stCells s) rfl rfl 71 (stCells (0, 0, 0)) ?_ (HI _).out rfl (st_one _) ?_; (exact hR.out); intro w6 hblk ht; have hR3 := Lib.hid hblk; clear hblk))
      exact bodyPost_ret (v := .tuple #[.agg (stCells s), .bool true]) (results_ct rfl _ _ w.heap.size 71 (stCells s) (0, 0) _ rfl hR3.out Try.underlying71 rfl (HI _).out rfl) rfl ⟨by rw [E.out.1, E.out.2], hB.out.trans (ht.below (by omega))⟩
set_option maxHeartbeats 4000000 in
theorem c_badRow (cast : Int) (A : Option Addr) (cap : Nat) (L : List (List UInt8)) (w : World) (hF : FabAt w cast A cap L) :
    Calls Try.prog 55 #[.int .i64 cast, .slice A L.length cap] w fun e w' => e = .returned (.int .i64 (badG cast 0 L)) ∧ Below w.heap.size w w' := by
  have hnum := hF.num
  have HR := Lib.hid hF.row
  have HL := Lib.hid hF.len
  clear hF
  go_enter Try.func55, Try.ntmps55
  go_wp2
  go_loopw [5, 13] (fun x i wr => ∃ k : Nat, k ≤ L.length ∧ i = .int .i64 k ∧ ∃ y : Int, x = .int .i64 y ∧ Hid (badG cast 0 L = badG y k (L.drop k)) ∧ Hid (Below w.heap.size w wr)) (fun _ i _ => L.length - (intOf i).toNat)
  case atStart => exact ⟨0, by omega, rfl, cast, rfl, rfl, Below.refl _ _⟩
  case round =>
    obtain ⟨k, hk, rfl, y, rfl, hE, hB⟩ := hrel
    by_cases hlt : k < L.length
    · have d1 : decide ((k : Int) < (L.length : Int)) = true := by simp; omega
      have k0 : (0 : Int) ≤ (k : Int) := by omega
      have k1 : (k : Int) < (L.length : Int) := by omega
      obtain ⟨ad, rfl, x0⟩ := (HR.out.below hB.out) k _ (strs_get hlt)
      have HD := drop_cons hlt
      have HLL := Lib.hid (HL.out (L.getD k []) (by rw [List.getD_eq_getElem?_getD, List.getElem?_eq_getElem hlt]; exact List.getElem_mem hlt))
      obtain ⟨l, hl⟩ : ∃ l, L.getD k [] = l := ⟨_, rfl⟩
      rw [hl] at x0 HD HLL
      have E0 := Lib.hid (hE.out.trans (by rw [HD]))
      clear hE HD hl
      cases hr : rowS l with
      | none =>
        have CR : ∀ w, Hid (Calls Try.prog 47 #[.string (str l)] w fun e w' => e = .returned (.tuple #[.agg #[.int .i64 0, .int .i64 0, .int .i64 0], .bool false]) ∧ Below w.heap.size w w') := fun w => by
          have := c_rowOf l HLL.out w
          rw [(rowV_none hr).1, (rowV_none hr).2] at this
          exact this
        have E := Lib.hid (E0.out.trans (badG_none hr))
        clear hr E0
        go_wp2_with (go_at_call 47; ((with_reducible refine (CR _).out.mono ?_); rintro e w1 ⟨rfl, hb1⟩; have hB1 := Lib.hid (below_then hB.out hb1)))
        exact bodyPost_ret (v := .int .i64 (k : Int)) (by simp [results, Try.results55, go_sem]) rfl ⟨by rw [E.out], hB1.out.alloc hB1.out.size _⟩
      | some a =>
        have CR : ∀ w, Hid (Calls Try.prog 47 #[.string (str l)] w fun e w' => e = .returned (.tuple #[.agg #[.int .i64 a.1, .int .i64 a.2.1, .int .i64 a.2.2], .bool true]) ∧ Below w.heap.size w w') := fun w => by
          have := c_rowOf l HLL.out w
          rw [(rowV_some hr).1, (rowV_some hr).2] at this
          exact this
        by_cases q4 : 30 ≤ k
        · have p4 : decide ((30 : Int) ≤ (k : Int)) = true := by simp; omega
          have E := Lib.hid (E0.out.trans (badG_yes hr (.inl q4)))
          clear hr E0
          go_wp2_with (go_at_call 47; ((with_reducible refine (CR _).out.mono ?_); rintro e w1 ⟨rfl, hb1⟩; have hB1 := Lib.hid (below_then hB.out hb1)))
          exact bodyPost_ret (v := .int .i64 (k : Int)) (by simp [results, Try.results55, go_sem]) rfl ⟨by rw [E.out], hB1.out.alloc hB1.out.size _⟩
        · have p4 : decide ((30 : Int) ≤ (k : Int)) = false := by simp; omega
          by_cases q1 : y = 0
          · have E := Lib.hid (E0.out.trans (badG_yes hr (.inr (.inl q1))))
            have p1 : (y == 0) = true := by simp [q1]
            clear hr E0 q1
            go_wp2_with (go_at_call 47; ((with_reducible refine (CR _).out.mono ?_); rintro e w1 ⟨rfl, hb1⟩; have hB1 := Lib.hid (below_then hB.out hb1)))
            exact bodyPost_ret (v := .int .i64 (k : Int)) (by simp [results, Try.results55, go_sem]) rfl ⟨by rw [E.out], hB1.out.alloc hB1.out.size _⟩
          · have p1 : (y == 0) = false := by simp [q1]
            by_cases q2 : a.1 = y
            · have p2 : (a.1 != y) = false := by simp [q2]
              by_cases q3 : 60 < a.2.1
              · have p3 : decide (60 < a.2.1) = true := by simp [q3]
                have E := Lib.hid (E0.out.trans (badG_yes hr (.inr (.inr (.inr q3)))))
                clear hr E0 q1 q2 q3
                go_wp2_with (go_at_call 47; ((with_reducible refine (CR _).out.mono ?_); rintro e w1 ⟨rfl, hb1⟩; have hB1 := Lib.hid (below_then hB.out hb1)))
                exact bodyPost_ret (v := .int .i64 (k : Int)) (by simp [results, Try.results55, go_sem]) rfl ⟨by rw [E.out], hB1.out.alloc hB1.out.size _⟩
              · have p3 : decide (60 < a.2.1) = false := by simp; omega
                have E := Lib.hid (E0.out.trans (badG_no hr (by omega)))
                clear hr E0 q1 q2 q3
                go_wp2_with (go_at_call 47; ((with_reducible refine (CR _).out.mono ?_); rintro e w1 ⟨rfl, hb1⟩; have hB1 := Lib.hid (below_then hB.out hb1)))
                go_roundw
                case rel => exact ⟨k + 1, by omega, by go_num, a.2.1, rfl, E, hB1.out.alloc hB1.out.size _⟩
                case measure => simp [intOf]; omega
            · have p2 : (a.1 != y) = true := by simp [q2]
              have E := Lib.hid (E0.out.trans (badG_yes hr (.inr (.inr (.inl q2)))))
              clear hr E0 q1 q2
              go_wp2_with (go_at_call 47; ((with_reducible refine (CR _).out.mono ?_); rintro e w1 ⟨rfl, hb1⟩; have hB1 := Lib.hid (below_then hB.out hb1)))
              exact bodyPost_ret (v := .int .i64 (k : Int)) (by simp [results, Try.results55, go_sem]) rfl ⟨by rw [E.out], hB1.out.alloc hB1.out.size _⟩
    · obtain rfl : k = L.length := by omega
      have d1 : decide ((L.length : Int) < (L.length : Int)) = false := by simp
      have E : Hid (badG cast 0 L = -1) := by rw [Hid, hE.out, List.drop_length]; rfl
      go_wp2
      exact bodyPost_ret (v := .int .i64 (-1)) (by simp [results, Try.results55, go_sem]) rfl ⟨by rw [E.out], hB.out⟩
theorem c_isLoops (n : Int) (w : World) : Calls Try.prog 54 #[.int .i64 n] w fun e w' => e = .returned (.bool (inB n 1 60)) ∧ w = w' := by
  go_enter Try.func54, Try.ntmps54
  go_wp2_with (go_at_call 32; ((with_reducible refine (c_within _ _ _ _).mono ?_); rintro e w1 ⟨rfl, rfl⟩))
  go_ret
  exact ⟨rfl, rfl⟩
set_option maxHeartbeats 1000000 in
theorem c_ValidFabric (cast : Int) (A : Option Addr) (cap : Nat) (L : List (List UInt8)) (w : World) (hF : FabAt w cast A cap L) :
    Calls Try.prog 26 #[.agg #[.int .i16 cast, .slice A L.length cap]] w fun e w' => e = .returned (.bool (fabOk cast L)) ∧ Below w.heap.size w w' := by
  obtain ⟨b0, b1⟩ := hF.bd
  have wc : IntKind.i64.wrap cast = cast := IntWalk.i64_in _ (by omega)
  have hb0 : Below w.heap.size w (w.alloc (.cells #[.int .i16 cast, .slice A L.length cap] 27 (0, 0))) := below_alloc (Below.refl _ _) _
  have CB := Lib.hid (c_badRow cast A cap L _ (hF.below hb0))
  have HB0 := Lib.hid hb0
  clear hF hb0
  cases q : inB cast 1 60
  · have E : Hid (fabOk cast L = false) := by rw [Hid, fabOk, q]; rfl
    have CC := fun w => Lib.hid (q ▸ c_isLoops cast w)
    clear q
    go_enter Try.func26, Try.ntmps26
    go_wp2_with (go_at_call 54; ((with_reducible refine (CC _).out.mono ?_); rintro e w1 ⟨rfl, rfl⟩))
    go_ret
    exact ⟨by rw [E.out]; rfl, HB0.out⟩
  · have E : Hid (fabOk cast L = decide (badG cast 0 L < 0)) := by rw [Hid, fabOk, q]; rfl
    have CC := fun w => Lib.hid (q ▸ c_isLoops cast w)
    clear q
    go_enter Try.func26, Try.ntmps26
    go_wp2_with (first
      | (go_at_call 54; ((with_reducible refine (CC _).out.mono ?_); rintro e w1 ⟨rfl, rfl⟩))
      | (go_at_call 55; ((with_reducible refine CB.out.mono ?_); rintro e w1 ⟨rfl, hb⟩; have HB := Lib.hid (below_then HB0.out hb); clear hb)))
    go_ret
    exact ⟨by rw [E.out]; rfl, HB.out⟩
end Go.Proofs.Ytepdgbgolopejaa
