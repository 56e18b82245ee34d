/- The best list of washes: the reference's three searches. -/
import Derived.Test.YtdmcemhckalhkaaTreeSpec
import Derived.Test.YtdmcemhckalhkaaTreeClean
import Derived.Deep.QuietTactic
import Derived.BigQuiet
namespace Go.Proofs.Ytdmcemhckalhkaa
open Go.RowKit
set_option linter.unusedVariables false
set_option linter.unusedSimpArgs false
set_option maxRecDepth 100000

def mostF (a b c d e : Int) (n : Nat) (p q r : Nat → Int) (M : Int) : Int := if askedF a b c d e n p q r = 0 then (if inB M 0 4 = true then 0 else 2) else askedF a b c d e n p q r
def nodesF (a b c d e : Int) (n : Nat) (p q r : Nat → Int) (M : Int) : List Nd := pre (kidsN n p q r) ⟨⟨a, b, c, d, e⟩, []⟩ (M.toNat + 1)
def noNd : Nd := ⟨zeroC, []⟩
/-- The node that is told, and the code. -/
def bestR (f : Nd → Int) (a b c d e : Int) (n : Nat) (p q r : Nat → Int) (M : Int) : Nd × Int :=
  if mostF a b c d e n p q r M = 0 then (match minO f ((nodesF a b c d e n p q r M).filter isCl) with | some x => (x, 0) | none => (noNd, 6)) else (noNd, mostF a b c d e n p q r M)
def lenF (x : Nd) : Int := x.o.length
def feltF (x : Nd) : Int := x.c.d
def areaF (x : Nd) : Int := -(x.c.a * x.c.b)
structure MostOk (a b c d e : Int) (n : Nat) (p q r : Nat → Int) (M : Int) : Prop where
  x : (⟨a, b, c, d, e⟩ : Cl).Ok
  g : ∀ j, j < n → (0 ≤ p j ∧ p j ≤ 9) ∧ (0 ≤ q j ∧ q j ≤ 9) ∧ (0 ≤ r j ∧ r j ≤ 9)
  hn : n ≤ 6
  hm : 0 ≤ M ∧ M ≤ 4
  a : askedF a b c d e n p q r = 0
  i : inB M 0 4 = true
theorem mostF_ok {a b c d e : Int} {n : Nat} {p q r : Nat → Int} {M : Int} (h : mostF a b c d e n p q r M = 0) : MostOk a b c d e n p q r M := by
  unfold mostF at h
  split at h
  · rename_i h1
    split at h
    · rename_i h2
      obtain ⟨o1, o2, h6⟩ := askedF_ok h1
      obtain ⟨q1, q2, q3, q4, q5⟩ := okCloth_all o1
      refine ⟨⟨q1, q2, q3, q4, q5⟩, fun j hj => okProgram_all (o2 j hj), h6, ?_, h1, h2⟩
      simp only [inB, Bool.and_eq_true, decide_eq_true_eq] at h2
      exact h2
    · omega
  · rename_i h1; exact absurd h h1
theorem nodes_ok {a b c d e : Int} {n : Nat} {p q r : Nat → Int} {M : Int} (h : MostOk a b c d e n p q r M) {x : Nd} (hx : x ∈ nodesF a b c d e n p q r M) : x.c.Ok ∧ x.o.length ≤ 4 := by
  obtain ⟨k, hk, hx⟩ := pre_mem hx
  obtain ⟨h1, h2⟩ := lev_all (kids := kidsN n p q r) (r := ⟨⟨a, b, c, d, e⟩, []⟩) (P := NdOk n) ⟨h.x, rfl⟩ (kidsN_ok h.g) k x hx
  have := h.hm
  exact ⟨h1, by omega⟩
theorem nodes_len {a b c d e : Int} {n : Nat} {p q r : Nat → Int} {M : Int} (h : MostOk a b c d e n p q r M) : (nodesF a b c d e n p q r M).length ≤ 1555 := by
  have := h.hm
  exact pre_bd (fun x => by rw [kidsN_len]; exact h.hn) (by omega)
theorem nodes_sorted {a b c d e : Int} {n : Nat} {p q r : Nat → Int} {M : Int} (h : MostOk a b c d e n p q r M) : (nodesF a b c d e n p q r M).Pairwise (fun x y => lenF x ≤ lenF y) :=
  pre_sorted (fun m x hx => by rw [lenF, (lev_all (kids := kidsN n p q r) (r := ⟨⟨a, b, c, d, e⟩, []⟩) (P := NdOk n) ⟨h.x, rfl⟩ (kidsN_ok h.g) m x hx).o]) _
theorem bestR_some {f : Nd → Int} {a b c d e : Int} {n : Nat} {p q r : Nat → Int} {M : Int} {x : Nd} (h : mostF a b c d e n p q r M = 0) (hx : minO f ((nodesF a b c d e n p q r M).filter isCl) = some x) : bestR f a b c d e n p q r M = (x, 0) := by
  rw [bestR, if_pos h, hx]
theorem bestR_none {f : Nd → Int} {a b c d e : Int} {n : Nat} {p q r : Nat → Int} {M : Int} (h : mostF a b c d e n p q r M = 0) (hx : minO f ((nodesF a b c d e n p q r M).filter isCl) = none) : bestR f a b c d e n p q r M = (noNd, 6) := by
  rw [bestR, if_pos h, hx]
theorem bestR_no {f : Nd → Int} {a b c d e : Int} {n : Nat} {p q r : Nat → Int} {M : Int} (h : ¬ mostF a b c d e n p q r M = 0) : bestR f a b c d e n p q r M = (noNd, mostF a b c d e n p q r M) := by
  rw [bestR, if_neg h]
theorem bestR_le {f : Nd → Int} {a b c d e : Int} {n : Nat} {p q r : Nat → Int} {M : Int} : (bestR f a b c d e n p q r M).1.o.length ≤ 1048576 := by
  by_cases h : mostF a b c d e n p q r M = 0
  · cases hx : minO f ((nodesF a b c d e n p q r M).filter isCl) with
    | none => rw [bestR_none h hx]; exact Nat.zero_le _
    | some x =>
      rw [bestR_some h hx]
      have := (nodes_ok (mostF_ok h) (List.mem_filter.1 (minO_mem hx)).1).2
      exact Nat.le_trans this (by decide)
  · rw [bestR_no h]; exact Nat.zero_le _
/-- Node j of a row, a node without meaning behind its end. -/
def ndAt (L : List (Nd × Value)) (j : Nat) : Nd := (L.map (·.1)).getD j noNd
theorem ndAt_get {L : List (Nd × Value)} {j : Nat} {z : Nd × Value} (h : L[j]? = some z) : ndAt L j = z.1 := by
  simp [ndAt, List.getD_eq_getElem?_getD, h]
theorem ndAt_all (L : List (Nd × Value)) : ∀ j, j < (L.map (·.1)).length → (L.map (·.1))[j]? = some (ndAt L j) := fun j hj => by
  simp only [List.length_map] at hj
  simp [ndAt, List.getD_eq_getElem?_getD, hj]

theorem c_l06Most (g gb : Nat) (a b c d e : Int) (n cap : Nat) (p q r : Nat → Int) (M : Int) (w : World) (hc : ClothAt w g 0 a b c d e) (ha : -32768 ≤ a ∧ a ≤ 32767) (hb : -32768 ≤ b ∧ b ≤ 32767) (h : ProgsAt w (some ⟨gb, 0, none⟩) n p q r) (hn : n ≤ 1048576) :
    Calls Try.prog 43 #[.pointer (some ⟨g, 0, none⟩), .slice (some ⟨gb, 0, none⟩) n cap, .int .i64 M] w fun u w' => u = .returned (.int .i64 (mostF a b c d e n p q r M)) ∧ w = w' := by
  have ca := c_l06Asked g gb a b c d e n cap p q r w hc ha hb h hn
  clear h hc
  by_cases hz : askedF a b c d e n p q r = 0
  · have E : Hid (mostF a b c d e n p q r M = if inB M 0 4 = true then 0 else 2) := by rw [Hid, mostF, if_pos hz]
    rw [hz] at ca
    have CA := Lib.hid ca
    clear ca hz
    cases q2 : inB M 0 4
    · have E2 : Hid (mostF a b c d e n p q r M = 2) := by rw [Hid, E.out, q2]; rfl
      have Q2 := Lib.hid q2
      clear q2
      go_enter Try.func43, Try.ntmps43
      go_wp2_with (first | (go_at_call 37; ((with_reducible refine CA.out.mono ?_); rintro u w1 ⟨rfl, rfl⟩)) | (go_at_call 38; ((with_reducible refine (c_l00In _ _ _ _).mono ?_); rintro e w2 ⟨rfl, rfl⟩; rw [Q2.out])))
      go_ret
      exact ⟨by rw [E2.out]; rfl, rfl⟩
    · have E2 : Hid (mostF a b c d e n p q r M = 0) := by rw [Hid, E.out, q2]; rfl
      have Q2 := Lib.hid q2
      clear q2
      go_enter Try.func43, Try.ntmps43
      go_wp2_with (first | (go_at_call 37; ((with_reducible refine CA.out.mono ?_); rintro u w1 ⟨rfl, rfl⟩)) | (go_at_call 38; ((with_reducible refine (c_l00In _ _ _ _).mono ?_); rintro e w2 ⟨rfl, rfl⟩; rw [Q2.out])))
      go_ret
      exact ⟨by rw [E2.out]; rfl, rfl⟩
  · have dz : (askedF a b c d e n p q r == 0) = false := by simpa using hz
    have E2 : Hid (mostF a b c d e n p q r M = askedF a b c d e n p q r) := by rw [Hid, mostF, if_neg hz]
    have CA := Lib.hid ca
    clear ca hz
    go_enter Try.func43, Try.ntmps43
    go_wp2_with (go_at_call 37; ((with_reducible refine CA.out.mono ?_); rintro u w1 ⟨rfl, rfl⟩))
    go_ret
    exact ⟨by rw [E2.out]; rfl, rfl⟩
theorem c_l06Area (g o : Nat) (a b c d e : Int) (w : World) (hc : ClothAt w g o a b c d e) (ha : 1 ≤ a ∧ a ≤ 1000) (hb : 1 ≤ b ∧ b ≤ 1000) :
    Calls Try.prog 48 #[.pointer (some ⟨g, o, none⟩)] w fun u w' => u = .returned (.int .i64 (a * b)) ∧ ∃ m, w' = w.drewN m := by
  obtain ⟨c0, c1, _⟩ := hc
  obtain ⟨a0, a1⟩ := ha
  obtain ⟨b0, b1⟩ := hb
  have m0 : 0 ≤ a * b := Int.mul_nonneg (by omega) (by omega)
  have m1 : a * b ≤ 1000000 := by
    have := Int.mul_le_mul a1 b1 (by omega) (by omega)
    omega
  have hw : IntKind.i64.wrap (a * b) = a * b := IntWalk.i64_in _ (by omega)
  go_enter Try.func48, Try.ntmps48
  go_wp2
  go_quiet (fail)
  go_wp2
  go_ret
  exact ⟨rfl, _, rfl⟩
theorem results_tct {P : Program} {fn : Func} {t0 p u : Tmp} {ty : TypeId} (h : fn.results = #[.tmp t0, .cell p ty, .tmp u]) (tmps : Array Value) (w : World) (g : Nat) (t : TypeId) (cs : Array Value) (fr : Nat × Nat) (d : TypeDesc) {v0 : Value}
    (h0 : tmps.getD t0 undef = v0) (hp : tmps.getD p undef = .pointer (some ⟨g, 0, none⟩)) (hg : w.heap[g]? = some (.cells cs t fr))
    (hu : P.underlying ty = some d) (hd : (match d with | .struct _ | .array _ _ => true | _ => false) = true) (hi : (P.info? ty).map (·.size) = some cs.size) {v2 : Value} (hv : tmps.getD u undef = v2) :
    (results fn tmps).run P w = .ok (.tuple #[v0, .agg cs, v2]) w := by
  subst hv
  subst h0
  have hp' : tmps[p]?.getD undef = .pointer (some ⟨g, 0, none⟩) := by simpa using hp
  simp [results, h, hp', asAddr, run_loadVar_row w g t ty cs fr d hg hu hd hi]
theorem own_touN {w w1 : World} {base n g : Nat} {e : TypeId} {size : Nat} {v : Value} {xs : List Value} (h : w.ownsRow base e size v n xs) (ht : Tou g w w1) (hv : v.ownBlock = none ∨ v.ownBlock ≠ some g) : w1.ownsRow base e size v n xs :=
  h.kept (row := some g) ⟨ht.os, ht.tape, ht.output, by rw [ht.size]; exact Nat.le_refl _, fun k _ hk => ht.block k (fun he => hk (by rw [he]))⟩ hv
set_option maxHeartbeats 4000000 in
theorem c_sFewestWashes (gb : Nat) (a b c d e : Int) (n cap : Nat) (p q r : Nat → Int) (M : Int) (w : World) (ha : -32768 ≤ a ∧ a ≤ 32767) (hb : -32768 ≤ b ∧ b ≤ 32767) (h : ProgsAt w (some ⟨gb, 0, none⟩) n p q r) (hn : n ≤ 1048576) :
    Calls Try.prog 11 #[.agg #[.int .i16 a, .int .i16 b, .int .i8 c, .int .i8 d, .int .i8 e], .slice (some ⟨gb, 0, none⟩) n cap, .int .i64 M] w fun u w' => ∃ v, u = .returned (.tuple #[v, .int .i64 (bestR lenF a b c d e n p q r M).2]) ∧ w'.ownsRow w.heap.size 2 1 v (bestR lenF a b c d e n p q r M).1.o.length (nums .i64 (bestR lenF a b c d e n p q r M).1.o) ∧ Below w.heap.size w w' := by
  have HB0 : Hid (Below w.heap.size w (w.alloc (.cells #[.int .i16 a, .int .i16 b, .int .i8 c, .int .i8 d, .int .i8 e] 27 (0, 0)))) := below_alloc (Below.refl _ _) _
  have HC := Lib.hid (heap_alloc_new w (.cells #[.int .i16 a, .int .i16 b, .int .i8 c, .int .i8 d, .int .i8 e] 27 (0, 0)))
  have H := Lib.hid (h.below HB0.out)
  have HIC : Hid ((Try.prog.info? 27).map (·.size) = some 5) := by show (Try.prog.info? 27).map (·.size) = some 5; kernel_rfl
  have CM := Lib.hid (c_l06Most w.heap.size gb a b c d e n cap p q r M _ (clothAt_row HC.out) ha hb H.out hn)
  clear h
  by_cases hz : mostF a b c d e n p q r M = 0
  · have hmo := mostF_ok hz
    have HZ := Lib.hid hz
    obtain ⟨m, rfl⟩ : ∃ m : Nat, M = (m : Int) := ⟨M.toNat, by have := hmo.hm; omega⟩
    have hm4 : m ≤ 4 := by have := hmo.hm; omega
    have CL := Lib.hid (c_l06All gb n cap m p q r ⟨a, b, c, d, e⟩ _ H.out (fun h0 => World.block_lt_of_cell? _ _ (progAt_of H.out h0).1) hmo.hn hm4 hmo.x hmo.g)
    have HOK := Lib.hid (fun x hx => nodes_ok (x := x) hmo hx)
    have HSO := Lib.hid (nodes_sorted hmo)
    have HLE := Lib.hid (nodes_len hmo)
    rw [hz] at CM
    clear hz hmo
    go_enter Try.func11, Try.ntmps11
    go_wp2_with (first
      | (refine wpList_load_row rfl 27 (.tmp 3) rfl (w.heap.size) rfl 27 #[.int .i16 a, .int .i16 b, .int .i8 c, .int .i8 d, .int .i8 e] (0, 0) _ ?_ Try.underlying27 rfl HIC.out ?_; (with_reducible exact HC.out))
      | (go_at_call 43; ((with_reducible refine CM.out.mono ?_); rintro u w1 ⟨rfl, rfl⟩))
      | (go_at_call 44; ((with_reducible refine CL.out.mono ?_); rintro u w1 ⟨L, gN, cN, rfl, hL, hO, hR, hF, hb⟩; have HL := Lib.hid hL; have HO := Lib.hid hO; have HR := Lib.hid hR; have HF := Lib.hid hF; have HB := Lib.hid (below_then HB0.out hb); have HC1 := Lib.hid (blk_below HC.out hb); clear hL hO hR hF hb)))
    have HNL : Hid (L.map (·.1) = nodesF a b c d e n p q r (m : Int)) := by rw [Hid, HL.out, nodesF, Int.toNat_natCast]
    have hLn : L.length ≤ 1555 := by have h1 := congrArg List.length HNL.out; rw [List.length_map] at h1; rw [h1]; exact HLE.out
    have hbs := HB0.out.size
    go_loop [10] (fun i => ∃ k : Nat, i = .int .i64 k ∧ k ≤ L.length ∧ Hid (((L.map (·.1)).take k).filter isCl = [])) (fun i => L.length - (intOf i).toNat)
    case atStart => exact ⟨0, rfl, by omega, rfl⟩
    case round =>
      obtain ⟨k, rfl, hk, hI⟩ := hrel
      by_cases hlt : k < L.length
      · have d1 : decide ((k : Int) < (L.length : Int)) = true := by simp; omega
        have k0 : (0 : Int) ≤ (k : Int) := by omega
        have k1 : (k : Int) < (L.length : Int) := by omega
        obtain ⟨⟨⟨x, od⟩, vo⟩, hLk⟩ : ∃ z, L[k]? = some z := ⟨_, List.getElem?_eq_getElem hlt⟩
        have e2 := (own_get HO.out (rowS_get hLk (j := 2) rfl)).1
        have e5 := (own_get HO.out (rowS_get hLk (j := 5) rfl)).1
        simp only at e2 e5
        have HLk := Lib.hid hLk
        have HT : Hid ((L.map (·.1)).take (k + 1) = (L.map (·.1)).take k ++ [⟨x, od⟩]) := by rw [Hid, List.take_add_one, List.getElem?_map, hLk]; rfl
        clear hLk
        by_cases hc : x.c = 0
        · have dc : (x.c == 0) = true := by simpa using hc
          have HH : Hid (((L.map (·.1)).filter isCl).head? = some ⟨x, od⟩) := by
            have := head_filter (p := isCl) (g := ndAt L) (k := k) (ndAt_all L k (by rw [List.length_map]; exact hlt)) hI.out (by rw [ndAt_get HLk.out]; exact dc)
            rw [ndAt_get HLk.out] at this; exact this
          have E : Hid (bestR lenF a b c d e n p q r (m : Int) = (⟨x, od⟩, 0)) := bestR_some HZ.out (by rw [minO_sorted (List.Pairwise.filter _ HSO.out), ← HNL.out]; exact HH.out)
          clear hc
          go_wp2
          exact bodyPost_ret (v := .tuple #[vo, .int .i64 0]) (by simp [results, Try.results11, go_sem]) rfl ⟨_, by rw [E.out], by rw [E.out]; exact own_mono (HR.out _ (List.mem_of_getElem? HLk.out)) hbs, HB.out⟩
        · have dc : (x.c == 0) = false := by simpa using hc
          have HI2 : Hid (((L.map (·.1)).take (k + 1)).filter isCl = []) := by rw [Hid, HT.out, List.filter_append, hI.out]; simp [isCl, hc]
          clear hc
          go_wp2
          go_round
          case rel => exact ⟨k + 1, by go_num, by omega, HI2⟩
          case measure => simp [intOf]; omega
      · obtain hkl : k = L.length := by omega
        subst hkl
        have d1 : decide ((L.length : Int) < (L.length : Int)) = false := by simp
        have E : Hid (bestR lenF a b c d e n p q r (m : Int) = (noNd, 6)) := bestR_none HZ.out (by
          have := hI.out
          rw [← List.length_map (f := (·.1)), List.take_length, HNL.out] at this
          rw [this]; rfl)
        have ho := heap_alloc_new w1 (.cells #[] 2 (0, 0))
        have hsz := HB.out.size
        go_wp2
        exact bodyPost_ret (v := .tuple #[.slice (some ⟨w1.heap.size, 0, none⟩) 0 0, .int .i64 6]) (by simp [results, Try.results11, go_sem]) rfl ⟨_, by rw [E.out], by rw [E.out]; exact own_empty ho hsz, below_alloc HB.out _⟩
  · have dz : (mostF a b c d e n p q r M != 0) = true := by simpa using hz
    have E := Lib.hid (bestR_no (f := lenF) hz)
    have ho := heap_alloc_new (w.alloc (.cells #[.int .i16 a, .int .i16 b, .int .i8 c, .int .i8 d, .int .i8 e] 27 (0, 0))) (.cells #[] 2 (0, 0))
    simp only [World.size_alloc] at ho
    have HOE := Lib.hid ho
    clear ho hz
    go_enter Try.func11, Try.ntmps11
    go_wp2_with (go_at_call 43; ((with_reducible refine CM.out.mono ?_); rintro u w1 ⟨rfl, rfl⟩))
    exact bodyPost_ret (v := .tuple #[.slice (some ⟨w.heap.size + 1, 0, none⟩) 0 0, .int .i64 (mostF a b c d e n p q r M)]) (by simp [results, Try.results11, go_sem]) rfl ⟨_, by rw [E.out], by rw [E.out]; exact own_empty HOE.out (by omega), by (repeat (first | with_reducible exact Below.refl _ _ | with_reducible refine below_alloc ?_ _ | with_reducible refine below_drew ?_ | with_reducible refine below_drewN ?_ _ | with_reducible refine below_then ?_ (by assumption)))⟩
end Go.Proofs.Ytdmcemhckalhkaa
