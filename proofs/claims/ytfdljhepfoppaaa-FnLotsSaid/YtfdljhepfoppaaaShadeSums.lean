/- What all lots have of each shade, and what all orders want. -/
import Derived.Test.YtfdljhepfoppaaaLeftIn
import Derived.Deep.QuietTactic
import Derived.BigQuiet
namespace Go.Proofs.Ytfdljhepfoppaaa
open Go.RowKit
set_option linter.unusedVariables false
set_option linter.unusedSimpArgs false
set_option maxRecDepth 100000

/-- x added to number i. -/
def addS (S : List Int) (i : Nat) (x : Int) : List Int := S.set i (gi S i + x)
def zeros20 : List Int := List.replicate 20 0
/-- The sums behind the first k lots; behind all lots and the first k orders. -/
def lotSum (s g : Nat → Int) : Nat → List Int
  | 0 => zeros20
  | k + 1 => addS (lotSum s g k) ((s k).toNat * 2) (g k)
def ordSum (S0 : List Int) (so go : Nat → Int) : Nat → List Int
  | 0 => S0
  | k + 1 => addS (ordSum S0 so go k) ((so k).toNat * 2 + 1) (go k)
structure SumOk (S : List Int) (B : Int) : Prop where
  len : S.length = 20
  bd : ∀ i, 0 ≤ gi S i ∧ gi S i ≤ B
theorem SumOk.add {S : List Int} {B x : Int} (h : SumOk S B) {i : Nat} (hi : i < 20) (h0 : 0 ≤ x) (h1 : x ≤ 5000) : SumOk (addS S i x) (B + 5000) := by
  refine ⟨by simp [addS, h.len], fun j => ?_⟩
  have hj := h.bd j
  have hi2 := h.bd i
  have e : gi (addS S i x) j = if j = i then gi S i + x else gi S j := by
    unfold addS gi
    by_cases e : j = i
    · subst e; simp [List.getD_eq_getElem?_getD, h.len, hi]
    · simp [List.getD_eq_getElem?_getD, List.getElem?_set, Ne.symm e, e]
  rw [e]
  split <;> omega
theorem lotSum_ok {nl : Nat} {s g : Nat → Int} (h : ∀ j, j < nl → (0 ≤ s j ∧ s j < 10) ∧ 0 ≤ g j ∧ g j ≤ 5000) : ∀ k, k ≤ nl → SumOk (lotSum s g k) (5000 * k)
  | 0, _ => ⟨rfl, fun i => by
      have : gi (lotSum s g 0) i = 0 := by
        unfold lotSum zeros20 gi
        simp only [List.getD_eq_getElem?_getD, List.getElem?_replicate]
        split <;> rfl
      omega⟩
  | k + 1, hk => by
    have ih := lotSum_ok h k (by omega)
    obtain ⟨⟨a, b⟩, c, d⟩ := h k (by omega)
    have := ih.add (i := (s k).toNat * 2) (x := g k) (by omega) c d
    rw [show (5000 * ((k + 1 : Nat) : Int)) = 5000 * (k : Int) + 5000 by omega]
    exact this
theorem ordSum_ok {no : Nat} {S0 : List Int} {so go : Nat → Int} {B : Int} (h0 : SumOk S0 B) (h : ∀ j, j < no → (0 ≤ so j ∧ so j < 10) ∧ 1 ≤ go j ∧ go j ≤ 5000) : ∀ k, k ≤ no → SumOk (ordSum S0 so go k) (B + 5000 * k)
  | 0, _ => by simpa [ordSum] using h0
  | k + 1, hk => by
    have ih := ordSum_ok h0 h k (by omega)
    obtain ⟨⟨a, b⟩, c, d⟩ := h k (by omega)
    have := ih.add (i := (so k).toNat * 2 + 1) (x := go k) (by omega) (by omega) d
    rw [show (B + 5000 * ((k + 1 : Nat) : Int)) = B + 5000 * (k : Int) + 5000 by omega]
    exact this
theorem lotsOk_all {nl : Nat} {s g : Nat → Int} (h : lotsOk nl s g = true) : ∀ j, j < nl → (0 ≤ s j ∧ s j < 10) ∧ 0 ≤ g j ∧ g j ≤ 5000 := fun j hj => by
  simp only [lotsOk, Bool.and_eq_true] at h
  have := allB_get h.1 j hj
  simp [inB, shade] at this
  omega
theorem ordersOk_all {no : Nat} {so go : Nat → Int} (h : ordersOk no so go = true) : ∀ j, j < no → (0 ≤ so j ∧ so j < 10) ∧ 1 ≤ go j ∧ go j ≤ 5000 := fun j hj => by
  simp only [ordersOk, Bool.and_eq_true] at h
  have := allB_get h.1 j hj
  simp [inB, shade] at this
  omega
def shadesF (nl no : Nat) (s g so go : Nat → Int) : List Int × Int :=
  if (lotsOk nl s g && ordersOk no so go) = true then (ordSum (lotSum s g nl) so go no, 0) else ([], 1)
/-- How many shades ShadeSums tells. -/
def shadesN (nl no : Nat) (s g so go : Nat → Int) : Nat := if (lotsOk nl s g && ordersOk no so go) = true then 10 else 0
theorem shadesN_le (nl no : Nat) (s g so go : Nat → Int) : shadesN nl no s g so go ≤ 1048576 := by unfold shadesN; split <;> omega
theorem shades_len (nl no : Nat) (s g so go : Nat → Int) : (shadesF nl no s g so go).1.length = shadesN nl no s g so go * 2 := by
  unfold shadesF shadesN
  split
  · rename_i h
    simp only [Bool.and_eq_true] at h
    exact (ordSum_ok (lotSum_ok (lotsOk_all h.1) nl (Nat.le_refl _)) (ordersOk_all h.2) no (Nat.le_refl _)).len
  · rfl
theorem addS_row (S : List Int) (i : Nat) (x : Int) : (nums .i64 S).set i (.int .i64 (gi S i + x)) = nums .i64 (addS S i x) := numsL_set _ _ _ _
set_option maxHeartbeats 4000000 in
theorem c_iShadeSums (A B : Option Addr) (nl no c c1 : Nat) (s g so go : Nat → Int) (w : World) (hL : LotsAt w A nl s g) (hO : LotsAt w B no so go) (hnl : nl ≤ 1048576) (hno : no ≤ 1048576)
    (hg : ∀ j, j < nl → -32768 ≤ g j ∧ g j ≤ 32767) (hgo : ∀ j, j < no → -32768 ≤ go j ∧ go j ≤ 32767) :
    Calls Try.prog 24 #[.slice A nl c, .slice B no c1] w fun e w' => ∃ v, e = .returned (.tuple #[v, .int .i64 (shadesF nl no s g so go).2]) ∧ w'.ownsRow w.heap.size 50 2 v (shadesN nl no s g so go) (nums .i64 (shadesF nl no s g so go).1) ∧ Below w.heap.size w w' := by
  have hmk : ∀ w : World, (Instr.makeSlice 47 (.int .i64 10) (.int .i64 10)).run Try.prog w = .ok (.slice (some ⟨w.heap.size, 0, none⟩) 10 10) (w.alloc (.cells (nums .i64 zeros20).toArray 50)) := fun w => by
    have hinfo : (Try.prog.info? 50).map (fun i => (i.zero, i.size, i.bytes)) = some (some (.agg #[.int .i64 0, .int .i64 0]), 2, 16) := by kernel_rfl
    obtain ⟨i, hi, hzz⟩ := Option.map_eq_some_iff.1 hinfo
    simp only [Prod.mk.injEq] at hzz
    obtain ⟨hz, hs, hb⟩ := hzz
    have := run_make (P := Try.prog) w 47 50 i _ Try.underlying47 hi hz .i64 .i64 10 10 (by omega) (Int.le_refl _) (by rw [hb]; decide) (by decide)
    have e : madeCells #[Value.int .i64 0, .int .i64 0] 20 = (nums .i64 zeros20).toArray := by kernel_rfl
    rw [hs, show Int.toNat 10 * 2 = 20 from rfl] at this
    rw [← e]
    exact this
  have c0 := c_areValid A B nl no c c1 s g so go w hL hO hnl hno hg hgo
  cases QQ : (lotsOk nl s g && ordersOk no so go)
  · have E : Hid (shadesF nl no s g so go = ([], 1)) := by rw [Hid, shadesF, QQ]; rfl
    have EN : Hid (shadesN nl no s g so go = 0) := by rw [Hid, shadesN, QQ]; rfl
    rw [QQ] at c0
    have C0 := Lib.hid c0
    clear c0 hL hO hg hgo QQ hmk
    go_enter Try.func24, Try.ntmps24
    go_wp2_with (go_at_call 35; ((with_reducible refine C0.out.mono ?_); rintro e w1 ⟨rfl, hb⟩))
    exact bodyPost_ret (v := .tuple #[.slice none 0 0, .int .i64 1]) (by simp [results, Try.results24, go_sem]) rfl ⟨_, by rw [E.out], by rw [E.out, EN.out]; exact own_nil _ _ _ _, hb⟩
  · rw [QQ] at c0
    have C0 := Lib.hid c0
    have q12 : lotsOk nl s g = true ∧ ordersOk no so go = true := by simpa only [Bool.and_eq_true] using QQ
    have E : Hid (shadesF nl no s g so go = (ordSum (lotSum s g nl) so go no, 0)) := by rw [Hid, shadesF, if_pos QQ]
    have EN : Hid (shadesN nl no s g so go = 10) := by rw [Hid, shadesN, if_pos QQ]
    have HG := Lib.hid (lotsOk_all q12.1)
    have HGO := Lib.hid (ordersOk_all q12.2)
    have h6 := (lotsOk_bd q12.1).1
    have h7 := (ordersOk_bd q12.2).1
    have HKL := Lib.hid (lotSum_ok HG.out)
    have HKO := Lib.hid (ordSum_ok (lotSum_ok HG.out nl (Nat.le_refl _)) HGO.out)
    have HL := Lib.hid hL
    have HO := Lib.hid hO
    clear c0 hL hO hg hgo q12 QQ
    go_enter Try.func24, Try.ntmps24
    go_wp2_with (go_at_call 35; ((with_reducible refine C0.out.mono ?_); rintro e w1 ⟨rfl, hb⟩))
    have HR0 : Hid ((w1.alloc (.cells (nums .i64 zeros20).toArray 50 (0, 0))).ownsRow w.heap.size 50 2 (.slice (some ⟨w1.heap.size, 0, none⟩) 10 10) 10 (nums .i64 (lotSum s g 0))) := own_of_row (arr := (nums .i64 zeros20).toArray) (heap_alloc_new w1 _) (by simp [nums, zeros20]) hb.size (by omega)
    have HB0 : Hid (Below w.heap.size w (w1.alloc (.cells (nums .i64 zeros20).toArray 50 (0, 0)))) := below_alloc hb _
    have hgb : w.heap.size ≤ w1.heap.size := hb.size
    generalize w1.heap.size = gb at *
    generalize w1.alloc (.cells (nums .i64 zeros20).toArray 50 (0, 0)) = w2 at *
    go_loopw [18] (fun i wr => ∃ k : Nat, k ≤ nl ∧ i = .int .i64 k ∧ Hid (wr.ownsRow w.heap.size 50 2 (.slice (some ⟨gb, 0, none⟩) 10 10) 10 (nums .i64 (lotSum s g k))) ∧ Hid (Below w.heap.size w wr)) (fun i _ => nl - (intOf i).toNat)
    case atStart => exact ⟨0, by omega, rfl, HR0.out, HB0.out⟩
    case round =>
      obtain ⟨k, hk, rfl, hI, hB⟩ := hrel
      by_cases hlt : k < nl
      · have d1 : decide ((k : Int) < (nl : Int)) = true := by simp; omega
        obtain ⟨ad, rfl, c0, c1⟩ := (HL.out.below hB.out).at_ k hlt
        obtain ⟨⟨s0, s1⟩, g0, g1⟩ := HG.out k hlt
        obtain ⟨a, ha⟩ := Int.eq_ofNat_of_zero_le s0
        have hSk : Hid (lotSum s g (k + 1) = addS (lotSum s g k) (a * 2) (g k)) := by
          have : lotSum s g (k + 1) = addS (lotSum s g k) ((s k).toNat * 2) (g k) := rfl
          rw [Hid, this, ha, Int.toNat_natCast]
        rw [ha] at c0
        have ha10 : a < 10 := by omega
        have a0 : (0 : Int) ≤ (a : Int) := by omega
        have a1 : (a : Int) < 10 := by omega
        have k0 : (0 : Int) ≤ (k : Int) := by omega
        have k1 : (k : Int) < (nl : Int) := by omega
        have hok := HKL.out k hk
        obtain ⟨v0, v1⟩ := hok.bd (a * 2)
        have v1' : gi (lotSum s g k) (a * 2) ≤ 100000 := by omega
        have hL0 := hok.len
        clear ha s0 s1 v1 hok
        generalize lotSum s g k = S at *
        obtain ⟨x0, f0⟩ := own_get hI.out (nums_get (zs := S) (j := a * 2) (by omega))
        go_wp2
        have hTb := heap_alloc_new wr (.cells #[.int .i8 (a : Int), .int .i16 (g k)] 46 (0, 0))
        have hI := Lib.hid (hI.out.alloc (.cells #[.int .i8 (a : Int), .int .i16 (g k)] 46 (0, 0)))
        have hz := hB.out.size
        have hB : Hid (Below w.heap.size w (wr.alloc (.cells #[.int .i8 (a : Int), .int .i16 (g k)] 46 (0, 0)))) := hB.out.alloc hz _
        generalize wr.heap.size = bl at *
        generalize wr.alloc (.cells #[.int .i8 (a : Int), .int .i16 (g k)] 46 (0, 0)) = wl at *
        clear c0 c1 x0 f0
        have c0 : wl.cell? ⟨bl, 0, none⟩ = some (.int .i8 (a : Int)) := cell_of_row wl bl 0 _ _ _ hTb
        have c1 : wl.cell? ⟨bl, 1, none⟩ = some (.int .i16 (g k)) := cell_of_row wl bl 1 _ _ _ hTb
        obtain ⟨x0, f0⟩ := own_get hI.out (nums_get (zs := S) (j := a * 2) (by omega))
        clear hTb
        go_still_tail 12, (by kernel_rfl)
        change wpList _ _ _ _ _ wl.drew
        have hB1 : Hid (Below w.heap.size w wl.drew) := below_drew hB.out
        have hR1 : Hid (wl.drew.ownsRow w.heap.size 50 2 (.slice (some ⟨gb, 0, none⟩) 10 10) 10 (nums .i64 S)) := own_drew hI.out
        have x1 : wl.drew.cell? ⟨gb, a * 2, none⟩ = some (.int .i64 (gi S (a * 2))) := x0
        have f1 : wl.drew.frozen? ⟨gb, a * 2, none⟩ = false := f0
        clear c0 c1 x0 f0 hI hB
        generalize wl.drew = wd at *
        have hR2 : Hid ((wd.setCell ⟨gb, a * 2, none⟩ (.int .i64 (gi S (a * 2) + g k))).ownsRow w.heap.size 50 2 (.slice (some ⟨gb, 0, none⟩) 10 10) 10 (nums .i64 (addS S (a * 2) (g k)))) := by
          have := own_set hR1.out (a * 2) (by omega) (.int .i64 (gi S (a * 2) + g k))
          rw [addS_row] at this
          exact this
        have hB2 : Hid (Below w.heap.size w (wd.setCell ⟨gb, a * 2, none⟩ (.int .i64 (gi S (a * 2) + g k)))) := hB1.out.setCell hgb _
        go_wp2
        go_roundw
        case rel => exact ⟨k + 1, by omega, by go_num, by rw [hSk.out]; exact hR2, hB2⟩
        case measure => simp [intOf]; omega
      · obtain rfl : k = nl := by omega
        have d1 : decide ((k : Int) < (k : Int)) = false := by simp
        go_wp2
        go_loopw [37] (fun i wr => ∃ q : Nat, q ≤ no ∧ i = .int .i64 q ∧ Hid (wr.ownsRow w.heap.size 50 2 (.slice (some ⟨gb, 0, none⟩) 10 10) 10 (nums .i64 (ordSum (lotSum s g k) so go q))) ∧ Hid (Below w.heap.size w wr)) (fun i _ => no - (intOf i).toNat)
        case atStart => exact ⟨0, by omega, rfl, hI, hB⟩
        case round =>
          obtain ⟨q, hk, rfl, hI, hB⟩ := hrel
          by_cases hlt : q < no
          · have d1 : decide ((q : Int) < (no : Int)) = true := by simp; omega
            obtain ⟨ad, rfl, c0, c1⟩ := (HO.out.below hB.out).at_ q hlt
            obtain ⟨⟨s0, s1⟩, g0, g1⟩ := HGO.out q hlt
            obtain ⟨a, ha⟩ := Int.eq_ofNat_of_zero_le s0
            have hSk : Hid (ordSum (lotSum s g k) so go (q + 1) = addS (ordSum (lotSum s g k) so go q) (a * 2 + 1) (go q)) := by
              have : ordSum (lotSum s g k) so go (q + 1) = addS (ordSum (lotSum s g k) so go q) ((so q).toNat * 2 + 1) (go q) := rfl
              rw [Hid, this, ha, Int.toNat_natCast]
            rw [ha] at c0
            have ha10 : a < 10 := by omega
            have a0 : (0 : Int) ≤ (a : Int) := by omega
            have a1 : (a : Int) < 10 := by omega
            have k0 : (0 : Int) ≤ (q : Int) := by omega
            have k1 : (q : Int) < (no : Int) := by omega
            have hok := HKO.out q hk
            obtain ⟨v0, v1⟩ := hok.bd (a * 2 + 1)
            have v1' : gi (ordSum (lotSum s g k) so go q) (a * 2 + 1) ≤ 100000 := by omega
            have hL0 := hok.len
            clear ha s0 s1 v1 hok
            generalize ordSum (lotSum s g k) so go q = S at *
            obtain ⟨x0, f0⟩ := own_get hI.out (nums_get (zs := S) (j := a * 2 + 1) (by omega))
            go_wp2
            have hTb := heap_alloc_new wr (.cells #[.int .i8 (a : Int), .int .i16 (go q)] 45 (0, 0))
            have hI := Lib.hid (hI.out.alloc (.cells #[.int .i8 (a : Int), .int .i16 (go q)] 45 (0, 0)))
            have hz := hB.out.size
            have hB : Hid (Below w.heap.size w (wr.alloc (.cells #[.int .i8 (a : Int), .int .i16 (go q)] 45 (0, 0)))) := hB.out.alloc hz _
            generalize wr.heap.size = bl at *
            generalize wr.alloc (.cells #[.int .i8 (a : Int), .int .i16 (go q)] 45 (0, 0)) = wl at *
            clear c0 c1 x0 f0
            have c0 : wl.cell? ⟨bl, 0, none⟩ = some (.int .i8 (a : Int)) := cell_of_row wl bl 0 _ _ _ hTb
            have c1 : wl.cell? ⟨bl, 1, none⟩ = some (.int .i16 (go q)) := cell_of_row wl bl 1 _ _ _ hTb
            obtain ⟨x0, f0⟩ := own_get hI.out (nums_get (zs := S) (j := a * 2 + 1) (by omega))
            clear hTb
            go_still_tail 12, (by kernel_rfl)
            change wpList _ _ _ _ _ wl.drew
            have hB1 : Hid (Below w.heap.size w wl.drew) := below_drew hB.out
            have hR1 : Hid (wl.drew.ownsRow w.heap.size 50 2 (.slice (some ⟨gb, 0, none⟩) 10 10) 10 (nums .i64 S)) := own_drew hI.out
            have x1 : wl.drew.cell? ⟨gb, a * 2 + 1, none⟩ = some (.int .i64 (gi S (a * 2 + 1))) := x0
            have f1 : wl.drew.frozen? ⟨gb, a * 2 + 1, none⟩ = false := f0
            clear c0 c1 x0 f0 hI hB
            generalize wl.drew = wd at *
            have hR2 : Hid ((wd.setCell ⟨gb, a * 2 + 1, none⟩ (.int .i64 (gi S (a * 2 + 1) + go q))).ownsRow w.heap.size 50 2 (.slice (some ⟨gb, 0, none⟩) 10 10) 10 (nums .i64 (addS S (a * 2 + 1) (go q)))) := by
              have := own_set hR1.out (a * 2 + 1) (by omega) (.int .i64 (gi S (a * 2 + 1) + go q))
              rw [addS_row] at this
              exact this
            have hB2 : Hid (Below w.heap.size w (wd.setCell ⟨gb, a * 2 + 1, none⟩ (.int .i64 (gi S (a * 2 + 1) + go q)))) := hB1.out.setCell hgb _
            go_wp2
            go_roundw
            case rel => exact ⟨q + 1, by omega, by go_num, by rw [hSk.out]; exact hR2, hB2⟩
            case measure => simp [intOf]; omega
          · obtain rfl : q = no := by omega
            have d1 : decide ((q : Int) < (q : Int)) = false := by simp
            go_wp2
            exact bodyPost_ret (v := .tuple #[.slice (some ⟨gb, 0, none⟩) 10 10, .int .i64 0]) (by simp [results, Try.results24, go_sem]) rfl ⟨_, by rw [E.out], by rw [E.out, EN.out]; exact hI.out, hB.out⟩
end Go.Proofs.Ytfdljhepfoppaaa
