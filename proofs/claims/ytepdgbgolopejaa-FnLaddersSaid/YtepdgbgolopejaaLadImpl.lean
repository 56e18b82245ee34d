/- The program's ladder. -/
import Derived.Test.YtepdgbgolopejaaLadWid
import Derived.Test.YtepdgbgolopejaaAreI64
import Derived.Test.YtepdgbgolopejaaAppOwn
namespace Go.Proofs.Ytepdgbgolopejaa
open Go.RowKit
set_option linter.unusedVariables false
set_option linter.unusedSimpArgs false
set_option maxRecDepth 100000

theorem add_plainL (b j : Nat) : (Addr.add ⟨b, 0, none⟩ j) = ⟨b, j, none⟩ := by unfold Addr.add; split <;> simp_all
/-- 'append' of a row of the call's own onto another one, as a row of the walk. -/
theorem ev_append_own2 {P : Program} {ops : Array Oper} {rest : List Oper} {o : Oper} {a : Act} {w : World} {Q : Exit → Act → World → Prop} (hg : o.guard = none) (s x : Operand) (t : TypeId) (hop : o.op = Op.call { callee := Callee.builtin Builtin.append, args := #[s, x], argTypes := #[t, t] })
    (e : TypeId) (z : Value) (size bytes : Nat) (h1 : P.underlying t = some (.slice e)) (hinfo : (P.info? e).map (fun i => (i.zero, i.size, i.bytes)) = some (some z, size, bytes)) (h6 : z.cells.size = size) (h7 : 0 < size)
    (base : Nat) (v : Value) (n : Nat) (xs : List Value) (hs : a.eval s = v) (hown : w.ownsRow base e size v n xs)
    (base2 : Nat) (u : Value) (m : Nat) (news : List Value) (hx : a.eval x = u) (hu : w.ownsRow base2 e size u m news) (hnil : m = 0 → u = .slice none 0 0) (h1c : ∀ u ∈ news, u.oneCell' = true)
    (b1 : n + m ≤ maxLen) (b2 : (n + m) * bytes ≤ 140737488355328) (hbase : base ≤ w.heap.size)
    (hK : ∀ v' w', w'.ownsRow base e size v' (n + m) (xs ++ news) → w.grownBy w' v.ownBlock → wpList P ops Q rest (a.put o.dst v') w') : wpList P ops Q (o :: rest) a w := by
  by_cases hm : m = 0
  · have hu0 := hnil hm
    subst hm
    have hn0 : news = [] := List.length_eq_zero_iff.1 (by have := hu.1; omega)
    subst hn0
    obtain ⟨i0, hi, hzz⟩ := Option.map_eq_some_iff.1 hinfo
    simp only [Prod.mk.injEq] at hzz
    obtain ⟨hz0, hz1, hz2⟩ := hzz
    refine wpList_plain hg fun K hK' => ?_
    have hrun := run_append_owned_none (P := P) (w := w) base t o.type e i0 size h1 hi v n xs hown
    unfold Oper.wp
    simp [execOp, hop, resolve, invoke, builtin, hs, hx, hu0, hrun, Result.andThen]
    refine hK' _ _ (hK v w ?_ ?_)
    · simpa using hown
    · exact ⟨rfl, rfl, rfl, Nat.le_refl _, fun _ _ _ => rfl⟩
  · obtain ⟨A, c, rfl, hA⟩ := own_form hu
    obtain ⟨g, rfl, _⟩ := hA (by omega)
    refine ev_append_row hg s x t hop e z size bytes h1 hinfo h6 h7 base v n xs hs hown ⟨g, 0, none⟩ m c news hx hu.1 (fun j y hj => ?_) h1c b1 b2 hbase hK
    rw [add_plainL]
    exact (own_get hu hj).1
theorem allB_fits (D : List Nat) (to : Nat) : ∀ n, allB n (fun j => D.contains (to + j)) = (List.range n).all fun k => D.contains (to + k)
  | 0 => rfl
  | n + 1 => by rw [allB, allB_fits D to n, List.range_succ, List.all_append]; simp
theorem natL_one (D : List Nat) : ∀ u ∈ nums .i64 (natL D), u.oneCell' = true := by
  intro u hu
  obtain ⟨x, _, rfl⟩ := List.mem_map.1 hu
  rfl
theorem gi_plcs {fr n j : Nat} (h : j < n) : gi (natL (plcs fr n)) j = ((fr + j : Nat) : Int) := by
  simp [gi, natL, plcs, h]
/-- What the program's ladder keeps, while a row's stitches are looked at. -/
structure LInv (Z : Nat) (w0 : World) (cast : Int) (A : Option Addr) (cap : Nat) (L : List (List UInt8)) (vO : Value) (Y : List (Int × Int)) (vD : Value) (D : List Nat) (vN : Value) (N : List Nat) (vS : Value) (l : List UInt8) (wr : World) : Prop where
  o : wr.ownsRow w0.heap.size 39 2 vO Y.length (lpRow Y)
  g : wr.heap[w0.heap.size + 2]? = some (.cells #[vD] 29 (0, 0))
  d : wr.ownsRow w0.heap.size 2 1 vD D.length (nums .i64 (natL D))
  f : wr.heap[w0.heap.size]? = some (.cells #[.int .i16 cast, .slice A L.length cap] 27 (0, 0))
  n : wr.ownsRow Z 2 1 vN N.length (nums .i64 (natL N))
  s : wr.ownsRow w0.heap.size 73 5 vS l.length (stiRow l l.length)
  z : ∀ k, vD.ownBlock = some k → k < Z
  b : Below w0.heap.size w0 wr
  zs : w0.heap.size ≤ Z ∧ Z ≤ wr.heap.size
section
variable {Z : Nat} {w0 : World} {cast : Int} {A : Option Addr} {cap : Nat} {L : List (List UInt8)} {vO : Value} {Y : List (Int × Int)} {vD : Value} {D : List Nat} {vN : Value} {N : List Nat} {vS : Value} {l : List UInt8} {wr w1 : World}
theorem LInv.below (h : LInv Z w0 cast A cap L vO Y vD D vN N vS l wr) (hb : Below wr.heap.size wr w1) : LInv Z w0 cast A cap L vO Y vD D vN N vS l w1 :=
  ⟨own_below h.o hb, blk_below h.g hb, own_below h.d hb, blk_below h.f hb, own_below h.n hb, own_below h.s hb, h.z, below_then h.b hb, h.zs.1, Nat.le_trans h.zs.2 hb.size⟩
theorem LInv.grown (h : LInv Z w0 cast A cap L vO Y vD D vN N vS l wr) (hG : wr.grownBy w1 vN.ownBlock) {v2 : Value} {N2 : List Nat} (ho : w1.ownsRow Z 2 1 v2 N2.length (nums .i64 (natL N2))) : LInv Z w0 cast A cap L vO Y vD D v2 N2 vS l w1 :=
  ⟨row_grown3 h.o h.n (by decide) hG, blk_grownT h.g h.n (by decide) hG, h.d.kept hG (apart_of h.z (own_up h.n)).ne, blk_grownT h.f h.n (by decide) hG, ho, row_grown3 h.s h.n (by decide) hG, h.z, below_grown h.b hG h.n h.zs.1 h.b.size, h.zs.1, Nat.le_trans h.zs.2 hG.size⟩
end
set_option maxHeartbeats 1000000 in
theorem c_ladAll {Z : Nat} {w0 : World} {cast : Int} {A AD AP : Option Addr} {cap cD cP to mn base : Nat} {L : List (List UInt8)} {vO : Value} {Y : List (Int × Int)} {D : List Nat} {vN : Value} {N : List Nat} {vS : Value} {l : List UInt8} (w : World)
    (hI : LInv Z w0 cast A cap L vO Y (.slice AD D.length cD) D vN N vS l w) (hP : w.ownsRow base 2 1 (.slice AP mn cP) mn (nums .i64 (natL (plcs to mn)))) (hm : mn ≤ 1000) (hd : D.length ≤ 60) :
    Calls Try.prog 58 #[.slice AP mn cP, .func (.func 59) #[] #[.pointer (some ⟨w0.heap.size + 2, 0, none⟩)]] w fun e w' => e = .returned (.bool ((List.range mn).all fun k => D.contains (to + k))) ∧ Below w.heap.size w w' := by
  have he : ∀ args w, (callFunc 59 args).run Try.prog w = .ok (.enter 59 args) w := enters_of Try.func59 (by kernel_rfl) rfl
  rw [← allB_fits]
  refine c_areAllI64 59 #[.pointer (some ⟨w0.heap.size + 2, 0, none⟩)] he (fun j => D.contains (to + j)) AP mn cP (natL (plcs to mn)) w (own_rd hP) (by rw [natL_len, plcs_len]) (by omega) (fun j hj w6 hb6 => ?_)
  rw [gi_plcs hj]
  refine (c_lad1 AD (w0.heap.size + 2) cD D (to + j) w6 (RdRow.below (own_rd hI.d) hb6) (by omega) (blk_cell (blk_below hI.g hb6) 0)).mono fun e w7 h => ⟨h.1, ?_⟩
  rw [← h.2]
  exact Below.refl _ _
set_option maxHeartbeats 4000000 in
theorem c_ladder (a : Nat) (cast : Int) (A : Option Addr) (cap : Nat) (L : List (List UInt8)) (w : World) (hF : FabAt w cast A cap L) (hV : FabV cast L) (ha : a < widN cast L L.length) :
    Calls Try.prog 29 #[.agg #[.int .i16 cast, .slice A L.length cap], .int .i64 (a : Int)] w fun e w' => ∃ v, e = .returned v ∧ w'.ownsRow w.heap.size 39 2 v (ladU L a (L.length + 1)).length (lpRow (ladU L a (L.length + 1))) ∧ Below w.heap.size w w' := by
  have HF := Lib.hid hF
  have HV := Lib.hid hV
  have hn := hV.num
  have s1 := heap_alloc_new w (.cells #[.int .i16 cast, .slice A L.length cap] 27 (0, 0))
  have s2 := heap_alloc_new (w.alloc (.cells #[.int .i16 cast, .slice A L.length cap] 27 (0, 0))) (.cells #[.int .i64 (a : Int)] 2 (0, 0))
  have s3 := heap_alloc_new ((w.alloc (.cells #[.int .i16 cast, .slice A L.length cap] 27 (0, 0))).alloc (.cells #[.int .i64 (a : Int)] 2 (0, 0))) (.cells #[.slice (some ⟨w.heap.size + 1, 0, none⟩) 1 1] 29 (0, 0))
  rw [World.size_alloc] at s2
  rw [World.size_alloc, World.size_alloc] at s3
  have HS1 := Lib.hid (blk_alloc (blk_alloc s1 (.cells #[.int .i64 (a : Int)] 2 (0, 0))) (.cells #[.slice (some ⟨w.heap.size + 1, 0, none⟩) 1 1] 29 (0, 0)))
  have HS2 := Lib.hid (own_of_row (base := w.heap.size) (size := 1) (n := 1) (blk_alloc s2 (.cells #[.slice (some ⟨w.heap.size + 1, 0, none⟩) 1 1] 29 (0, 0))) rfl (Nat.le_succ _) (by decide))
  have HS3 := Lib.hid s3
  have he : ∀ args w, (callFunc 59 args).run Try.prog w = .ok (.enter 59 args) w := enters_of Try.func59 (by kernel_rfl) rfl
  have HE := Lib.hid he
  clear hF hV s1 s2 s3 he
  go_enter Try.func29, Try.ntmps29
  go_wp2
  go_loopw [7, 5] (fun r v wr => ∃ i rn : Nat, Hid (rn + i = L.length) ∧ r = .int .i64 (rn : Int) ∧ ∃ vD, Hid (wr.ownsRow w.heap.size 39 2 v (ladU L a i).length (lpRow (ladU L a i))) ∧ Hid (wr.heap[w.heap.size + 2]? = some (.cells #[vD] 29 (0, 0))) ∧ Hid (wr.ownsRow w.heap.size 2 1 vD (dropD L a i).length (nums .i64 (natL (dropD L a i)))) ∧ Hid (wr.heap[w.heap.size]? = some (.cells #[.int .i16 cast, .slice A L.length cap] 27 (0, 0))) ∧ Hid (Below w.heap.size w wr)) (fun r _ _ => (intOf r).toNat)
  case atStart => exact ⟨0, L.length, rfl, by go_num, _, own_nil _ _ _ _, HS3, HS2, HS1, below_alloc (below_alloc (below_alloc (Below.refl _ _) _) _) _⟩
  case round =>
    obtain ⟨i, rn, hri, rfl, vD, hO, hG, hD, hF0, hB⟩ := hrel
    clear HS1 HS2 HS3
    have hrl := hri.out
    have r30 : (rn : Int) ≤ 30 := by omega
    have r0 : (0 : Int) ≤ (rn : Int) := by omega
    have hsucc : Hid (ladU L a (i + 1) = ladU L a i ++ (dropD L a i).map fun (k : Nat) => ((rn : Int), (k : Int))) := by
      rw [Hid, ladU, show L.length - i = rn by omega]
    have hDlt : ∀ x ∈ dropD L a i, x < widN cast L rn := by
      have := dropD_lt HV.out ha i (by omega)
      rwa [show L.length - i = rn by omega] at this
    have hDso := dropD_sort L a i
    have hwr := HV.out.wid rn (by omega)
    have hlen0 := ladU_len HV.out ha i (by omega)
    have hdl := len_le_of_sorted hDso hDlt
    have hD60 : Hid (∀ x ∈ dropD L a i, x < 60) := fun x hx => by have := hDlt x hx; omega
    have hi30 : (ladU L a i).length ≤ 1860 := by omega
    clear hrl hlen0 hDso
    obtain ⟨AD, cD, rfl, hAD⟩ := own_form hD.out
    have x6 := blk_cell hG.out 0
    generalize hX : ladU L a i = X at *
    generalize hDD : dropD L a i = D at *
    have d60 : D.length ≤ 60 := by omega
    go_wp2
    go_loopw [23, 5] (fun x v wr => ∃ k : Nat, k ≤ D.length ∧ x = .int .i64 (k : Int) ∧ ∃ Y, Y = X ++ (D.take k).map (fun (x : Nat) => ((rn : Int), (x : Int))) ∧ Hid (wr.ownsRow w.heap.size 39 2 v Y.length (lpRow Y)) ∧ Hid (wr.heap[w.heap.size + 2]? = some (.cells #[.slice AD D.length cD] 29 (0, 0))) ∧ Hid (wr.ownsRow w.heap.size 2 1 (.slice AD D.length cD) D.length (nums .i64 (natL D))) ∧ Hid (wr.heap[w.heap.size]? = some (.cells #[.int .i16 cast, .slice A L.length cap] 27 (0, 0))) ∧ Hid (Below w.heap.size w wr)) (fun x _ _ => D.length - (intOf x).toNat)
    case atStart => exact ⟨0, by omega, by go_num, X, by simp, hO, hG, hD, hF0, hB⟩
    case round =>
      obtain ⟨k, hk, rfl, Y, hY, hO, hG, hD, hF0, hB⟩ := hrel
      by_cases hkd : k < D.length
      · have d2 : decide ((k : Int) < (D.length : Int)) = true := by simp; omega
        obtain ⟨gD, rfl, -⟩ := hAD (by omega)
        have x0 := (own_get hD.out (natL_get hkd)).1
        have k0 : (0 : Int) ≤ (k : Int) := by omega
        have k1 : (k : Int) < (D.length : Int) := by omega
        have hy60 := hD60.out _ (List.getElem_mem hkd)
        have HT : Hid (D.take (k + 1) = D.take k ++ [D[k]]) := by rw [Hid, List.take_add_one, List.getElem?_eq_getElem hkd]; rfl
        have hYl : Y.length ≤ 1860 + k := by
          rw [hY, List.length_append, List.length_map, List.length_take]; omega
        have hz := hB.out.size
        have HY : Hid (Y ++ [((rn : Int), (D[k] : Int))] = X ++ (D.take (k + 1)).map (fun (x : Nat) => ((rn : Int), (x : Int)))) := by rw [Hid, HT.out, List.map_append, hY, List.append_assoc]; rfl
        clear hY HT
        generalize D[k] = y at *
        have y60 : (y : Int) < 60 := by omega
        go_wp2_with (first
          | (at_builtin; refine ap1 rfl (.tmp 27) (.tmp 33) 34 39 rfl ((.agg #[.int .i16 0, .int .i16 0])) 2 4 w.heap.size Try.underlying34 (by kernel_rfl) rfl (by decide) u5 Y.length (lpRow Y) [.int .i16 (rn : Int), .int .i16 (y : Int)] rfl rfl (by simp) rfl rfl hO.out hz (by omega) (by omega) ?_; intro g6 d6 w6 hown hg6 hat; have HB6 := Lib.hid (below_grown hB.out hg6 hO.out (Nat.le_refl _) hz); have HO6 := Lib.hid hown; have HG6 := Lib.hid (blk_grownT hG.out hO.out (by decide) hg6); have HF6 := Lib.hid (blk_grownT hF0.out hO.out (by decide) hg6); have HD6 := Lib.hid (row_grown3 hD.out hO.out (by decide) hg6); clear hown hat hg6))
        go_roundw
        case rel => exact ⟨k + 1, by omega, by go_num, _, HY.out, by rw [lpRow_snoc, List.length_append]; exact HO6, HG6, HD6, HF6, HB6⟩
        case measure => simp [intOf]; omega
      · obtain rfl : k = D.length := by omega
        have d2 : decide ((D.length : Int) < (D.length : Int)) = false := by simp
        rw [List.take_length] at hY
        have HY : Hid (Y = ladU L a (i + 1)) := hY.trans hsucc.out.symm
        by_cases hr0 : rn = 0
        · have hE : Hid (ladU L a (L.length + 1) = Y) := by
            have := hri.out
            show ladU L a (L.length + 1) = Y
            rw [HY.out, show L.length = i by omega]
          subst hr0
          clear hY
          go_wp2
          exact bodyPost_ret (v := u5) (by simp [results, Try.results29, go_sem]) rfl ⟨_, rfl, by rw [hE.out]; exact hO.out, hB.out⟩
        · obtain ⟨q, rfl⟩ : ∃ q, rn = q + 1 := ⟨rn - 1, by omega⟩
          have hqi := hri.out
          have hq : q < L.length := by omega
          have q0 : (0 : Int) ≤ (q : Int) := by omega
          have q1 : (q : Int) < (L.length : Int) := by omega
          have q2 : ¬ ((q : Int) + 1 = 0) := by omega
          have x1 : wr.cell? ⟨w.heap.size, 1, none⟩ = some (.slice A L.length cap) := blk_cell hF0.out 1
          obtain ⟨ad, rfl, c0⟩ := (HF.out.row.below hB.out) q _ (strs_get hq)
          have hl120 := HV.out.len q hq
          have CST := Lib.hid (fun w' => c_stitches (L.getD q []) (by omega) (HV.out.row q hq) w')
          have hmk : mkS (L.getD q []) ≤ 60 := by rw [HV.out.wd q hq]; exact HV.out.wid (q + 1) (by omega)
          have htk60 := HV.out.wid q (by omega)
          rw [← HV.out.tk q hq] at htk60
          have HN : Hid (dropD L a (i + 1) = nextP D (L.getD q []) (L.getD q []).length) := by rw [Hid, dropD, hDD, show L.length - 1 - i = q by omega]
          obtain ⟨sv, hsv⟩ := HV.out.row q hq
          have hst : Hid (∀ (j : Nat) (h : j < (L.getD q []).length), ∃ s, stT (L.getD q [])[j] = some s) := fun j h => rowS_st hsv h
          have hNso : Hid (∀ j, j ≤ (L.getD q []).length → (nextP D (L.getD q []) j).length ≤ 60) := fun j hj => by
            have h1 := len_le_of_sorted (nextP_sort D (L.getD q []) j hj) (nextP_lt D (L.getD q []) j hj)
            have h2 := takS_le (L.getD q []) j
            omega
          clear hqi hX hDD hY hsucc hDlt hsv sv hwr hdl hi30
          generalize L.getD q [] = l at *
          go_wp2_with (go_at_call 34; ((refine (CST.out _).mono ?_); rintro e w3 ⟨vS, rfl, hS, hb⟩; obtain ⟨AS, cS, rfl, hAS⟩ := own_form hS; have HL3 : Hid (LInv w3.heap.size w cast (some ad) cap L u5 Y (.slice AD D.length cD) D (.slice none 0 0) [] (.slice AS l.length cS) l w3) := ⟨own_below hO.out hb, blk_below hG.out hb, own_below hD.out hb, blk_below hF0.out hb, own_nil _ _ _ _, own_mono hS hB.out.size, fun k hk => Nat.lt_of_lt_of_le (hD.out.lt k hk).2 hb.size, below_then hB.out hb, Nat.le_trans hB.out.size hb.size, Nat.le_refl _⟩; clear hS hb))
          clear hO hG hD hF0 hB x1 c0 x6 CST
          generalize w3.heap.size = Z at *
          go_loopw [47, 10] (fun x v wr => ∃ j : Nat, j ≤ l.length ∧ x = .int .i64 (j : Int) ∧ Hid (LInv Z w cast (some ad) cap L u5 Y (.slice AD D.length cD) D v (nextP D l j) (.slice AS l.length cS) l wr)) (fun x _ _ => l.length - (intOf x).toNat)
          case atStart => exact ⟨0, by omega, by go_num, HL3⟩
          case round =>
            obtain ⟨j, hj, rfl, HI⟩ := hrel
            by_cases hjl : j < l.length
            · have d3 : decide ((j : Int) < (l.length : Int)) = true := by simp; omega
              obtain ⟨gS, rfl, -⟩ := hAS (by omega)
              have j0 : (0 : Int) ≤ (j : Int) := by omega
              have j1 : (j : Int) < (l.length : Int) := by omega
              obtain ⟨s, hs⟩ := hst.out j hjl
              obtain ⟨-, -, s3, s4, -, -, -⟩ := stT_N hs
              have y0 := (own_get HI.out.s ((stiRow_get l l.length j hjl 0 (by omega)).trans rfl)).1
              have y1 := (own_get HI.out.s ((stiRow_get l l.length j hjl 1 (by omega)).trans rfl)).1
              have y2 := (own_get HI.out.s ((stiRow_get l l.length j hjl 2 (by omega)).trans rfl)).1
              have y3 := (own_get HI.out.s ((stiRow_get l l.length j hjl 3 (by omega)).trans rfl)).1
              have y4 := (own_get HI.out.s ((stiRow_get l l.length j hjl 4 (by omega)).trans rfl)).1
              have hgd := getD_u8 hjl
              rw [hgd] at y0 y1 y2
              have htS := tkS_take hjl
              have hmS := mkS_take hjl
              have htL := takS_le l (j + 1)
              have hmL := makS_le l (j + 1)
              have HYS := Lib.hid (fun h => nextP_yes (D := D) hjl h)
              have HNO := Lib.hid (fun h => nextP_no (D := D) hjl h)
              have hNl := hNso.out j (by omega)
              clear hs s hgd
              generalize tkS (l.take j) = fr at *
              generalize mkS (l.take j) = to at *
              generalize tkN l[j] = tn at *
              generalize mkN l[j] = mn at *
              have fr60 : fr + tn ≤ 60 := by omega
              have to60 : to + mn ≤ 60 := by omega
              generalize (stV l[j]).2.2 = yn at *
              clear htS hmS htL hmL
              rw [Nat.add_zero] at y0
              have st1 := Lib.hid True.intro
              have j5 : (j : Int) * 5 = ((j * 5 : Nat) : Int) := by omega
              by_cases hm0 : mn = 0
              · have HNX := Lib.hid (HNO.out (by rw [hm0]; rfl))
                subst hm0
                have y1z : wr.cell? ⟨gS, j * 5 + 1, none⟩ = some (.int .i64 0) := y1
                clear y1
                clear HYS HNO
                go_wp2_with (go_at_call 57; clear st1; ((refine (c_places to 0 _ (by omega) (by omega)).mono ?_); rintro e w5 ⟨vP, rfl, hP, hb, hPZ⟩; rw [plcs_len] at hP; obtain ⟨AP, cP, rfl, _⟩ := own_form hP; have HI5 := Lib.hid ((HI.out.below (below_alloc (Below.refl _ _) (.cells #[.int .i64 (tn : Int), .int .i64 0, .int .i64 yn, .int .i64 (fr : Int), .int .i64 (to : Int)] 73 (0, 0)))).below hb); have HB12 := Lib.hid (blk_below (heap_alloc_new wr (.cells #[.int .i64 (tn : Int), .int .i64 0, .int .i64 yn, .int .i64 (fr : Int), .int .i64 (to : Int)] 73 (0, 0))) hb); have HP := Lib.hid hP; clear hP hb hPZ))
                go_roundw
                case rel => exact ⟨j + 1, by omega, by go_num, by rw [HNX.out]; exact HI5⟩
                case measure => simp [intOf]; omega
              · have hmp : (0 : Int) < (mn : Int) := by omega
                cases qa : (List.range mn).all fun k => D.contains (to + k)
                · have HNX := Lib.hid (HNO.out (by rw [fits, qa, Bool.and_false]))
                  have HQ := Lib.hid qa
                  clear HYS HNO hm0
                  go_wp2_with (first
                    | (go_at_call 57; clear st1; ((refine (c_places to mn _ (by omega) (by omega)).mono ?_); rintro e w5 ⟨vP, rfl, hP, hb, hPZ⟩; rw [plcs_len] at hP; obtain ⟨AP, cP, rfl, _⟩ := own_form hP; have HI5 := Lib.hid ((HI.out.below (below_alloc (Below.refl _ _) (.cells #[.int .i64 (tn : Int), .int .i64 (mn : Int), .int .i64 yn, .int .i64 (fr : Int), .int .i64 (to : Int)] 73 (0, 0)))).below hb); have HB12 := Lib.hid (blk_below (heap_alloc_new wr (.cells #[.int .i64 (tn : Int), .int .i64 (mn : Int), .int .i64 yn, .int .i64 (fr : Int), .int .i64 (to : Int)] 73 (0, 0))) hb); have HP := Lib.hid hP; clear hP hb hPZ))
                    | (go_at_call 58; ((refine (c_ladAll _ HI5.out HP.out (by omega) d60).mono ?_); rw [qa]; rintro e w6 ⟨rfl, hb⟩; have HI6 := Lib.hid (HI5.out.below hb); have HB6 := Lib.hid (blk_below HB12.out hb); have b0 := blk_cell HB6.out 0; have b3 := blk_cell HB6.out 3; clear hb)))
                  go_roundw
                  case rel => exact ⟨j + 1, by omega, by go_num, by rw [HNX.out]; exact HI6⟩
                  case measure => simp [intOf]; omega
                · have HNX := Lib.hid (HYS.out (by rw [fits, qa, Bool.and_true]; simpa using Nat.pos_of_ne_zero hm0))
                  have hm1 : (nextP D l j).length + tn ≤ maxLen := by simp only [maxLen]; omega
                  have hm2 : ((nextP D l j).length + tn) * 8 ≤ 140737488355328 := by omega
                  clear HYS HNO hm0
                  go_wp2_with (first
                    | (go_at_call 57; clear st1; ((refine (c_places to mn _ (by omega) (by omega)).mono ?_); rintro e w5 ⟨vP, rfl, hP, hb, hPZ⟩; rw [plcs_len] at hP; obtain ⟨AP, cP, rfl, _⟩ := own_form hP; have HI5 := Lib.hid ((HI.out.below (below_alloc (Below.refl _ _) (.cells #[.int .i64 (tn : Int), .int .i64 (mn : Int), .int .i64 yn, .int .i64 (fr : Int), .int .i64 (to : Int)] 73 (0, 0)))).below hb); have HB12 := Lib.hid (blk_below (heap_alloc_new wr (.cells #[.int .i64 (tn : Int), .int .i64 (mn : Int), .int .i64 yn, .int .i64 (fr : Int), .int .i64 (to : Int)] 73 (0, 0))) hb); have HP := Lib.hid hP; clear hP hb hPZ))
                    | (go_at_call 58; ((refine (c_ladAll _ HI5.out HP.out (by omega) d60).mono ?_); rw [qa]; rintro e w6 ⟨rfl, hb⟩; have HI6 := Lib.hid (HI5.out.below hb); have HB6 := Lib.hid (blk_below HB12.out hb); have b0 := blk_cell HB6.out 0; have b3 := blk_cell HB6.out 3; clear hb))
                    | (go_at_call 57; ((refine (c_places fr tn _ (by omega) (by omega)).mono ?_); rintro e w7 ⟨vP2, rfl, hP2, hb, hPZ2⟩; rw [plcs_len] at hP2; have HI7 := Lib.hid (HI6.out.below hb); have HP2 := Lib.hid hP2; have HPZ := Lib.hid hPZ2; clear hP2 hb hPZ2))
                    | (at_builtin; (refine ev_append_own2 rfl (.tmp 65) (.tmp 71) 29 rfl 2 (.int .i64 0) 1 8 Try.underlying29 (by kernel_rfl) rfl (by decide) Z u10 (nextP D l j).length (nums .i64 (natL (nextP D l j))) rfl HI7.out.n _ vP2 tn (nums .i64 (natL (plcs fr tn))) rfl HP2.out HPZ.out (natL_one _) hm1 hm2 HI7.out.zs.2 ?_; intro v8 w8 hO8 hG8; have HI8 := Lib.hid (HI7.out.grown hG8 (v2 := v8) (N2 := nextP D l j ++ plcs fr tn) (by rw [List.length_append, plcs_len, natL_app]; exact hO8)); clear hO8 hG8)))
                  go_roundw
                  case rel => exact ⟨j + 1, by omega, by go_num, by rw [HNX.out]; exact HI8⟩
                  case measure => simp [intOf]; omega
            · obtain rfl : j = l.length := by omega
              have d3 : decide ((l.length : Int) < (l.length : Int)) = false := by simp
              obtain ⟨AN, cN, rfl, -⟩ := own_form HI.out.n
              have xg := blk_cell HI.out.g 0
              have fg := blk_frozen HI.out.g 0
              have hT : Tou (w.heap.size + 2) wr (wr.setCell ⟨w.heap.size + 2, 0, none⟩ (.slice AN (nextP D l l.length).length cN)) := Tou.setCell wr (w.heap.size + 2) 0 (.slice AN (nextP D l l.length).length cN)
              have HG9 : Hid ((wr.setCell ⟨w.heap.size + 2, 0, none⟩ (.slice AN (nextP D l l.length).length cN)).heap[w.heap.size + 2]? = some (.cells #[(.slice AN (nextP D l l.length).length cN)] 29 (0, 0))) := blk_set HI.out.g 0 (.slice AN (nextP D l l.length).length cN)
              have HO9 := Lib.hid (own_touT HI.out.o HI.out.g (by decide) hT)
              have HD9 := Lib.hid (own_mono (own_touT HI.out.n HI.out.g (by decide) hT) HI.out.zs.1)
              have HF9 := Lib.hid (blk_tou HI.out.f hT (by omega))
              have HB9 := Lib.hid (HI.out.b.trans (hT.below (by omega)))
              clear hT
              go_wp2
              go_roundw
              case rel => exact ⟨i + 1, q, by have := hri.out; show q + (i + 1) = L.length; omega, by go_num, (.slice AN (nextP D l l.length).length cN), by rw [← HY.out]; exact HO9, HG9, by rw [HN.out]; exact HD9, HF9, HB9⟩
              case measure => simp [intOf]
end Go.Proofs.Ytepdgbgolopejaa
