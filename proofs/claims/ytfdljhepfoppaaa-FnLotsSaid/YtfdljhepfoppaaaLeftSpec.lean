/- What a plan leaves in each lot: the plain part, and the reference's walk. -/
import Derived.Test.YtfdljhepfoppaaaLotRows
import Derived.Test.YtfdljhepfoppaaaMem3
import Derived.StillTailTactics
namespace Go.Proofs.Ytfdljhepfoppaaa
open Go.RowKit
set_option linter.unusedVariables false
set_option linter.unusedSimpArgs false
set_option maxRecDepth 100000

/-- One order served from lot p; -1: from none. -/
def stepL (nl : Nat) (s : Nat → Int) (l : List Int) (so go p : Int) : Option (List Int) :=
  if p = -1 then some l else if 0 ≤ p ∧ p < nl ∧ s p.toNat = so ∧ go ≤ gi l p.toNat then some (l.set p.toNat (gi l p.toNat - go)) else none
def leftS (nl : Nat) (s g so go : Nat → Int) (zs : List Int) : Nat → Option (List Int)
  | 0 => some ((List.range nl).map g)
  | k + 1 => (leftS nl s g so go zs k).bind fun l => stepL nl s l (so k) (go k) (gi zs k)
theorem leftS_none {nl : Nat} {s g so go : Nat → Int} {zs : List Int} {k : Nat} (h : leftS nl s g so go zs k = none) : ∀ m, k ≤ m → leftS nl s g so go zs m = none
  | 0, hm => by
    obtain rfl : k = 0 := by omega
    exact h
  | m + 1, hm => by
    by_cases e : k = m + 1
    · subst e; exact h
    · rw [leftS, leftS_none h m (by omega)]; rfl
/-- So many numbers, of 0 to 32767. -/
structure LeftOk (nl : Nat) (l : List Int) : Prop where
  len : l.length = nl
  bd : ∀ i, 0 ≤ gi l i ∧ gi l i ≤ 32767
theorem LeftOk.set {nl : Nat} {l : List Int} (h : LeftOk nl l) {m : Nat} (hm : m < nl) {v : Int} (h0 : 0 ≤ v) (h1 : v ≤ 32767) : LeftOk nl (l.set m v) := by
  refine ⟨by simp [h.len], fun i => ?_⟩
  unfold gi
  by_cases e : i = m
  · subst e; simp [List.getD_eq_getElem?_getD, h.len, hm, h0, h1]
  · have := h.bd i
    unfold gi at this
    simpa [List.getD_eq_getElem?_getD, List.getElem?_set, Ne.symm e] using this
theorem gi_range {nl : Nat} (g : Nat → Int) (i : Nat) : gi ((List.range nl).map g) i = if i < nl then g i else 0 := by
  unfold gi
  by_cases h : i < nl
  · simp [List.getD_eq_getElem?_getD, h]
  · simp [List.getD_eq_getElem?_getD, h, List.getElem?_eq_none (show (List.range nl).length ≤ i by simp; omega)]
theorem LeftOk.first {nl : Nat} {g : Nat → Int} (h : ∀ j, j < nl → 0 ≤ g j ∧ g j ≤ 32767) : LeftOk nl ((List.range nl).map g) := by
  refine ⟨by simp, fun i => ?_⟩
  rw [gi_range]
  split
  · rename_i hi; exact h i hi
  · omega
theorem nums_range (k : IntKind) (g : Nat → Int) (n : Nat) : nums k ((List.range (n + 1)).map g) = nums k ((List.range n).map g) ++ [.int k (g n)] := by
  simp [nums, List.range_succ]
theorem numsL_set (k : IntKind) (xs : List Int) (j : Nat) (v : Int) : (nums k xs).set j (.int k v) = nums k (xs.set j v) := by
  simp [nums, List.map_set]
theorem gi_setL {xs : List Int} {j : Nat} (h : j < xs.length) (v : Int) : gi (xs.set j v) j = v := by
  unfold gi; simp [List.getD_eq_getElem?_getD, h]
/-- What is left behind a whole plan, if it is right. -/
def leftF (nl no np : Nat) (s g so go : Nat → Int) (zs : List Int) : Option (List Int) := if np = no then leftS nl s g so go zs np else none

set_option maxHeartbeats 4000000 in
theorem c_l07Left (A B C : Option Addr) (nl no np c c1 c2 : Nat) (s g so go : Nat → Int) (zs : List Int) (w : World) (hL : LotsAt w A nl s g) (hO : LotsAt w B no so go) (hP : RdRow w C (nums .i64 zs)) (hz : zs.length = np)
    (hnl : nl ≤ 6) (hno : no ≤ 7) (hnp : np ≤ 1048576) (hg : ∀ j, j < nl → 0 ≤ g j ∧ g j ≤ 5000) (hgo : ∀ j, j < no → 1 ≤ go j ∧ go j ≤ 5000) (hzb : ∀ j, -9223372036854775808 ≤ gi zs j ∧ gi zs j ≤ 9223372036854775807) :
    Calls Try.prog 53 #[.slice A nl c, .slice B no c1, .slice C np c2] w fun e w' => ∃ v, e = .returned (.tuple #[v, .bool (leftF nl no np s g so go zs).isSome]) ∧ (∀ l, leftF nl no np s g so go zs = some l → w'.ownsRow w.heap.size 2 1 v nl (nums .i64 l)) ∧ Below w.heap.size w w' := by
  have HL := Lib.hid hL
  have HO := Lib.hid hO
  have HP := Lib.hid hP
  have HZ := Lib.hid hz
  have HG := Lib.hid hg
  have HGO := Lib.hid hgo
  have HZB := Lib.hid hzb
  have ho := World.ownsRow_made (base := w.heap.size) (e := 2) (size := 1) w #[] 0 (by simp) (by decide) rfl
  have HE := Lib.hid ho
  have HB0 : Hid (Below w.heap.size w (w.alloc (.cells #[] 2 (0, 0)))) := below_alloc (Below.refl _ _) _
  clear hL hO hP hz hg hgo hzb ho
  go_enter Try.func53, Try.ntmps53
  go_wp2
  go_loopw [9, 8] (fun i v wr => ∃ k : Nat, k ≤ nl ∧ i = .int .i64 k ∧ Hid (wr.ownsRow w.heap.size 2 1 v k (nums .i64 ((List.range k).map g))) ∧ Hid (Below w.heap.size w wr)) (fun i _ _ => nl - (intOf i).toNat)
  case atStart => exact ⟨0, by omega, rfl, HE, HB0⟩
  case round =>
    obtain ⟨k, hk, rfl, hI, hB⟩ := hrel
    by_cases hlt : k < nl
    · have d1 : decide ((k : Int) < (nl : Int)) = true := by simp; omega
      obtain ⟨ad, rfl, c0, c1⟩ := (HL.out.below hB.out).at_ k hlt
      have k0 : (0 : Int) ≤ (k : Int) := by omega
      have k1 : (k : Int) < (nl : Int) := by omega
      have hz := hB.out.size
      obtain ⟨g0, g1⟩ := HG.out k hlt
      go_wp2_with (at_builtin; refine ap1 rfl (.tmp 18) (.tmp 25) 29 2 rfl (.int .i64 0) 1 8 w.heap.size Try.underlying29 (by kernel_rfl) rfl (by decide) u8 k (nums .i64 ((List.range k).map g)) [.int .i64 (g k)] rfl rfl (by simp) rfl rfl hI.out hz (by omega) (by omega) ?_; intro g3 d3 w5 hown hg3 hat; have hB5 := Lib.hid (below_grown hB.out hg3 hI.out (Nat.le_refl _) hz); have hO5 := Lib.hid hown; clear hown hat hg3)
      go_roundw
      case rel => exact ⟨k + 1, by omega, by go_num, by rw [Hid, nums_range]; exact hO5.out, hB5⟩
      case measure => simp [intOf]; omega
    · obtain rfl : k = nl := by omega
      have d1 : decide ((k : Int) < (k : Int)) = false := by simp
      by_cases hnn : np = no
      · subst hnn
        have dn : ((np : Int) != (np : Int)) = false := by simp
        have HS : Hid (leftF k np np s g so go zs = leftS k s g so go zs np) := by rw [Hid, leftF, if_pos rfl]
        obtain ⟨A', c', rfl, hA'⟩ := own_form hI.out
        have H0 := Lib.hid (LeftOk.first (g := g) (fun j hj => by have := HG.out j hj; omega))
        have HI := Lib.hid hI.out
        clear hI
        generalize A' = A1 at *
        go_wp2
        go_loopw [10] (fun i wr => ∃ q : Nat, q ≤ np ∧ i = .int .i64 q ∧ Hid (∃ l, leftS k s g so go zs q = some l ∧ LeftOk k l ∧ wr.ownsRow w.heap.size 2 1 (.slice A1 k c') k (nums .i64 l)) ∧ Hid (Below w.heap.size w wr)) (fun i _ => np - (intOf i).toNat)
        case atStart => exact ⟨0, by omega, rfl, ⟨_, rfl, H0.out, HI.out⟩, hB⟩
        case round =>
          obtain ⟨q, hq, rfl, hI, hB⟩ := hrel
          obtain ⟨l, hl, hok, hown⟩ := hI.out
          have HOK := Lib.hid hok
          have HW := Lib.hid hown
          by_cases hlt2 : q < np
          · have d2 : decide ((q : Int) < (np : Int)) = true := by simp; omega
            obtain ⟨ad, rfl, p0⟩ := (HP.out.below hB.out) q _ (nums_get (by rw [HZ.out]; exact hlt2))
            obtain ⟨ao, rfl, o0, o1⟩ := (HO.out.below hB.out).at_ q hlt2
            obtain ⟨go0, go1⟩ := HGO.out q hlt2
            obtain ⟨zb0, zb1⟩ := HZB.out q
            have q0 : (0 : Int) ≤ (q : Int) := by omega
            have q1 : (q : Int) < (np : Int) := by omega
            have SN : Hid (leftS k s g so go zs (q + 1) = stepL k s l (so q) (go q) (gi zs q)) := by rw [Hid, leftS, hl]; rfl
            clear hI hl hok hown
            generalize hpz : gi zs q = p at *
            cases i1 : inB p (-1) ((k : Int) - 1)
            · have hS : stepL k s l (so q) (go q) p = none := by
                simp [inB] at i1
                rw [stepL, if_neg (by omega), if_neg (by omega)]
              have EN := Lib.hid (leftS_none (SN.out.trans hS) np hlt2)
              clear hS
              go_wp2_with (go_at_call 45; ((with_reducible refine (c_l00In _ _ _ _).mono ?_); rintro e w1 ⟨rfl, rfl⟩))
              exact bodyPost_ret (v := .tuple #[.slice A1 k c', .bool false]) (by simp [results, Try.results53, go_sem]) rfl ⟨_, by rw [HS.out, EN.out]; rfl, (by rw [HS.out, EN.out]; intro l hl; cases hl), hB.out⟩
            · by_cases hp0 : p < 0
              · have dp : decide (p < 0) = true := by simpa using hp0
                have hS : stepL k s l (so q) (go q) p = some l := by
                  simp [inB] at i1
                  rw [stepL, if_pos (by omega)]
                have HS1 := Lib.hid (SN.out.trans hS)
                clear hS
                go_wp2_with (go_at_call 45; ((with_reducible refine (c_l00In _ _ _ _).mono ?_); rintro e w1 ⟨rfl, rfl⟩))
                go_roundw
                case rel => exact ⟨q + 1, by omega, by go_num, ⟨l, HS1.out, HOK.out, HW.out⟩, hB⟩
                case measure => simp [intOf]; omega
              · obtain ⟨m, rfl⟩ := Int.eq_ofNat_of_zero_le (show 0 ≤ p by omega)
                have dp : decide ((m : Int) < 0) = false := by simp
                have hm : m < k := by simp [inB] at i1; omega
                have m0 : (0 : Int) ≤ (m : Int) := by omega
                have m1 : (m : Int) < (k : Int) := by omega
                have hle := HOK.out.bd m
                obtain ⟨l0, l1⟩ := hle
                obtain ⟨ga, rfl, hga⟩ := hA' (by omega)
                obtain ⟨al, hal, s0, s1⟩ := (HL.out.below hB.out).at_ m hm
                have hgl : (nums .i64 l)[m]? = some (.int .i64 (gi l m)) := nums_get (by rw [HOK.out.len]; exact hm)
                obtain ⟨x0, f0⟩ := own_get HW.out hgl
                have hst : stepL k s l (so q) (go q) (m : Int) = if s m = so q ∧ go q ≤ gi l m then some (l.set m (gi l m - go q)) else none := by
                  rw [stepL, if_neg (by omega), Int.toNat_natCast]
                  by_cases hc : s m = so q ∧ go q ≤ gi l m
                  · rw [if_pos hc, if_pos ⟨by omega, by omega, hc.1, hc.2⟩]
                  · rw [if_neg hc, if_neg (fun h => hc ⟨h.2.2.1, h.2.2.2⟩)]
                have SN2 := Lib.hid (SN.out.trans hst)
                have HZm := Lib.hid hpz
                clear hst hpz
                have hXm := Lib.hid (own_set HW.out m (by omega) (.int .i64 (gi l m - go q)))
                go_wp2_with (go_at_call 45; ((with_reducible refine (c_l00In _ _ _ _).mono ?_); rintro e w1 ⟨rfl, rfl⟩))
                go_still_tail 15, (by kernel_rfl)
                change wpList _ _ _ _ _ wr.drew
                have hB1 : Hid (Below w.heap.size w wr.drew) := below_drew hB.out
                have hW1 : Hid (wr.drew.ownsRow w.heap.size 2 1 (.slice (some ⟨ga, 0, none⟩) k c') k (nums .i64 l)) := own_drew HW.out
                have x1 : wr.drew.cell? ⟨ga, m, none⟩ = some (.int .i64 (gi l m)) := x0
                have f1 : wr.drew.frozen? ⟨ga, m, none⟩ = false := f0
                clear p0 o0 o1 s0 s1 x0 f0 HW hB hXm
                generalize wr.drew = wd at *
                go_wp2
                have hW2 : Hid ((wd.setCell ⟨ga, m, none⟩ (.int .i64 (gi l m - go q))).ownsRow w.heap.size 2 1 (.slice (some ⟨ga, 0, none⟩) k c') k (nums .i64 (l.set m (gi l m - go q)))) := by
                  have := own_set hW1.out m (by omega) (.int .i64 (gi l m - go q))
                  rw [numsL_set] at this
                  exact this
                have hB2 : Hid (Below w.heap.size w (wd.setCell ⟨ga, m, none⟩ (.int .i64 (gi l m - go q)))) := hB1.out.setCell hga _
                clear x1 f1 hW1 hB1
                generalize wd.setCell ⟨ga, m, none⟩ (.int .i64 (gi l m - go q)) = wb at *
                obtain ⟨ad', ead, p0⟩ := (HP.out.below hB2.out) q _ (nums_get (by rw [HZ.out]; exact hlt2))
                obtain rfl : ad' = ad := by simpa using ead.symm
                rw [HZm.out] at p0
                obtain ⟨ao', eao, o0, o1⟩ := (HO.out.below hB2.out).at_ q hlt2
                obtain rfl : ao' = ao := by simpa using eao.symm
                obtain ⟨al', eal, s0, s1⟩ := (HL.out.below hB2.out).at_ m hm
                obtain rfl : al' = al := by rw [hal] at eal; simpa using eal.symm
                subst hal
                have hgl2 : (nums .i64 (l.set m (gi l m - go q)))[m]? = some (.int .i64 (gi l m - go q)) := by
                  have := nums_get (k := .i64) (zs := l.set m (gi l m - go q)) (j := m) (by simp; rw [HOK.out.len]; exact hm)
                  rw [gi_setL (by rw [HOK.out.len]; exact hm)] at this
                  exact this
                have x0 := (own_get hW2.out hgl2).1
                clear hgl hgl2
                by_cases hsh : s m = so q
                · rw [hsh] at s0
                  by_cases hge : go q ≤ gi l m
                  · have dg : decide (gi l m - go q < 0) = false := by simp; omega
                    have HS1 := Lib.hid (SN2.out.trans (if_pos ⟨hsh, hge⟩))
                    have HK := Lib.hid (HOK.out.set hm (v := gi l m - go q) (by omega) (by omega))
                    go_quiet (fail)
                    go_wp2
                    go_roundw
                    case rel => exact ⟨q + 1, by omega, by go_num, ⟨_, HS1.out, HK.out, hW2.out⟩, below_drewN hB2.out _⟩
                    case measure => simp [intOf]; omega
                  · have dg : decide (gi l m - go q < 0) = true := by simp; omega
                    have EN := Lib.hid (leftS_none (SN2.out.trans (if_neg (fun h => hge h.2))) np hlt2)
                    go_quiet (fail)
                    go_wp2
                    exact bodyPost_ret (v := .tuple #[.slice (some ⟨ga, 0, none⟩) k c', .bool false]) (by simp [results, Try.results53, go_sem]) rfl ⟨_, by rw [HS.out, EN.out]; rfl, (by rw [HS.out, EN.out]; intro l hl; cases hl), below_drewN hB2.out _⟩
                · have dg : (s m != so q) = true := by simp [hsh]
                  have EN := Lib.hid (leftS_none (SN2.out.trans (if_neg (fun h => hsh h.1))) np hlt2)
                  go_quiet (fail)
                  go_wp2
                  exact bodyPost_ret (v := .tuple #[.slice (some ⟨ga, 0, none⟩) k c', .bool false]) (by simp [results, Try.results53, go_sem]) rfl ⟨_, by rw [HS.out, EN.out]; rfl, (by rw [HS.out, EN.out]; intro l hl; cases hl), below_drewN hB2.out _⟩
          · obtain rfl : q = np := by omega
            have d2 : decide ((q : Int) < (q : Int)) = false := by simp
            have HS1 := Lib.hid (HS.out.trans hl)
            clear hI hl hok hown
            go_wp2
            exact bodyPost_ret (v := .tuple #[.slice A1 k c', .bool true]) (by simp [results, Try.results53, go_sem]) rfl ⟨_, by rw [HS1.out]; rfl, (by rw [HS1.out]; intro l2 hl2; cases hl2; exact HW.out), hB.out⟩
      · have dn : ((np : Int) != (no : Int)) = true := by simp; omega
        have HS : Hid (leftF k no np s g so go zs = none) := by rw [Hid, leftF, if_neg hnn]
        obtain ⟨A', c', rfl, hA'⟩ := own_form hI.out
        have dn2 : ¬ ((np : Int) = (no : Int)) := by omega
        go_wp2
        exact bodyPost_ret (v := .tuple #[.slice A' k c', .bool false]) (by simp [results, Try.results53, go_sem]) rfl ⟨_, by rw [HS.out]; rfl, (by rw [HS.out]; intro l hl; cases hl), hB.out⟩
end Go.Proofs.Ytfdljhepfoppaaa
