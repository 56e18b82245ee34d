/- What a plan leaves in each lot: the implementation's walk. -/
import Derived.Test.YtfdljhepfoppaaaLeftSpec
namespace Go.Proofs.Ytfdljhepfoppaaa
open Go.RowKit
set_option linter.unusedVariables false
set_option linter.unusedSimpArgs false
set_option maxRecDepth 100000

theorem flipw {P : Program} {f : FuncId} {args : Array Value} {w : World} {v : Value} (h : Calls P f args w fun e w' => e = .returned v ∧ w = w') : Calls P f args w fun e w' => e = .returned v ∧ w' = w :=
  h.mono fun _ _ h => ⟨h.1, h.2.symm⟩
theorem c_lengthLot (A : Option Addr) (n c : Nat) (w : World) : Calls Try.prog 68 #[.slice A n c] w fun e w' => e = .returned (.int .i64 (n : Int)) ∧ w = w' := by
  go_enter Try.func68, Try.ntmps68
  go_wp2
  go_ret
  exact ⟨rfl, rfl⟩
set_option maxHeartbeats 1000000 in
theorem c_grams (A : Option Addr) (nl c : Nat) (s g : Nat → Int) (w : World) (hL : LotsAt w A nl s g) (hnl : nl ≤ 6) (hg : ∀ j, j < nl → 0 ≤ g j ∧ g j ≤ 5000) :
    Calls Try.prog 55 #[.slice A nl c] w fun e w' => ∃ v, e = .returned v ∧ w'.ownsRow w.heap.size 2 1 v nl (nums .i64 ((List.range nl).map g)) ∧ Below w.heap.size w w' := by
  have HL := Lib.hid hL
  have HG := Lib.hid hg
  clear hL hg
  go_enter Try.func55, Try.ntmps55
  go_wp2
  go_loopw [8, 3] (fun i v wr => ∃ k : Nat, k ≤ nl ∧ i = .int .i64 k ∧ Hid (wr.ownsRow w.heap.size 2 1 v k (nums .i64 ((List.range k).map g))) ∧ Hid (Below w.heap.size w wr)) (fun i _ _ => nl - (intOf i).toNat)
  case atStart => exact ⟨0, by omega, rfl, own_nil _ _ _ _, Below.refl _ _⟩
  case round =>
    obtain ⟨k, hk, rfl, hI, hB⟩ := hrel
    by_cases hlt : k < nl
    · have d1 : decide ((k : Int) < (nl : Int)) = true := by simp; omega
      obtain ⟨ad, rfl, c0, c1⟩ := (HL.out.below hB.out).at_ k hlt
      have k0 : (0 : Int) ≤ (k : Int) := by omega
      have k1 : (k : Int) < (nl : Int) := by omega
      have hz := hB.out.size
      obtain ⟨g0, g1⟩ := HG.out k hlt
      go_wp2_with (at_builtin; refine ap1 rfl (.tmp 12) (.tmp 16) 29 2 rfl (.int .i64 0) 1 8 w.heap.size Try.underlying29 (by kernel_rfl) rfl (by decide) u3 k (nums .i64 ((List.range k).map g)) [.int .i64 (g k)] rfl rfl (by simp) rfl rfl (hI.out.alloc _) (by simp; omega) (by omega) (by omega) ?_; intro g3 d3 w5 hown hg3 hat; have hB5 := Lib.hid (below_grown (hB.out.alloc hz _) hg3 (hI.out.alloc _) (Nat.le_refl _) (by simp; omega)); have hO5 := Lib.hid hown; clear hown hat hg3)
      go_roundw
      case rel => exact ⟨k + 1, by omega, by go_num, by rw [Hid, nums_range]; exact hO5.out, hB5⟩
      case measure => simp [intOf]; omega
    · obtain rfl : k = nl := by omega
      have d1 : decide ((k : Int) < (k : Int)) = false := by simp
      go_wp2
      exact bodyPost_ret (v := u3) (by simp [results, Try.results55, go_sem]) rfl ⟨_, rfl, hI.out, hB.out⟩

set_option maxHeartbeats 4000000 in
theorem c_leftBy (A B C : Option Addr) (nl no np c c1 c2 : Nat) (s g so go : Nat → Int) (zs : List Int) (w : World) (hL : LotsAt w A nl s g) (hO : LotsAt w B no so go) (hP : RdRow w C (nums .i64 zs)) (hz : zs.length = np)
    (hnl : nl ≤ 6) (hno : no ≤ 7) (hnp : np ≤ 1048576) (hg : ∀ j, j < nl → 0 ≤ g j ∧ g j ≤ 5000) (hgo : ∀ j, j < no → 1 ≤ go j ∧ go j ≤ 5000) (hzb : ∀ j, -9223372036854775808 ≤ gi zs j ∧ gi zs j ≤ 9223372036854775807) :
    Calls Try.prog 52 #[.slice A nl c, .slice B no c1, .slice C np c2] w fun e w' => ∃ v, e = .returned (.tuple #[v, .bool (leftF nl no np s g so go zs).isSome]) ∧ (∀ l, leftF nl no np s g so go zs = some l → w'.ownsRow w.heap.size 2 1 v nl (nums .i64 l)) ∧ Below w.heap.size w w' := by
  have HL := Lib.hid hL
  have HO := Lib.hid hO
  have HP := Lib.hid hP
  have HZ := Lib.hid hz
  have HG := Lib.hid hg
  have HGO := Lib.hid hgo
  have HZB := Lib.hid hzb
  have CG := Lib.hid (c_grams A nl c s g w hL hnl hg)
  clear hL hO hP hz hg hgo hzb
  by_cases hnn : np = no
  · subst hnn
    have dn : ((np : Int) != (np : Int)) = false := by simp
    have HS : Hid (leftF nl np np s g so go zs = leftS nl s g so go zs np) := by rw [Hid, leftF, if_pos rfl]
    have H0 := Lib.hid (LeftOk.first (g := g) (fun j hj => by have := HG.out j hj; omega))
    go_enter Try.func52, Try.ntmps52
    go_wp2_with (go_at_call 55; ((with_reducible refine CG.out.mono ?_); rintro e w1 ⟨v, rfl, hO, hb⟩; obtain ⟨A1, c', rfl, hA'⟩ := own_form hO; have HI := Lib.hid hO; clear hO; have HB := Lib.hid hb; clear hb))
    go_loopw [20] (fun i wr => ∃ q : Nat, q ≤ np ∧ i = .int .i64 q ∧ Hid (∃ l, leftS nl s g so go zs q = some l ∧ LeftOk nl l ∧ wr.ownsRow w.heap.size 2 1 (.slice A1 nl c') nl (nums .i64 l)) ∧ Hid (Below w.heap.size w wr)) (fun i _ => np - (intOf i).toNat)
    case atStart => exact ⟨0, by omega, rfl, ⟨_, rfl, H0.out, HI.out⟩, HB⟩
    case round =>
      obtain ⟨q, hq, rfl, hI, hB⟩ := hrel
      obtain ⟨l, hl, hok, hown⟩ := hI.out
      have HOK := Lib.hid hok
      have HW := Lib.hid hown
      by_cases hlt2 : q < np
      · have d2 : decide ((q : Int) < (np : Int)) = true := by simp; omega
        obtain ⟨ad, rfl, p0⟩ := (HP.out.below hB.out) q _ (nums_get (by rw [HZ.out]; exact hlt2))
        obtain ⟨ao, rfl, o0, o1⟩ := (HO.out.below hB.out).at_ q hlt2
        obtain ⟨go0, go1⟩ := HGO.out q hlt2
        obtain ⟨zb0, zb1⟩ := HZB.out q
        have q0 : (0 : Int) ≤ (q : Int) := by omega
        have q1 : (q : Int) < (np : Int) := by omega
        have SN : Hid (leftS nl s g so go zs (q + 1) = stepL nl s l (so q) (go q) (gi zs q)) := by rw [Hid, leftS, hl]; rfl
        clear hI hl hok hown
        generalize hpz : gi zs q = p at *
        by_cases hp0 : p = -1
        · have dp : (p == -1) = true := by simp [hp0]
          have hS : stepL nl s l (so q) (go q) p = some l := by rw [stepL, if_pos hp0]
          have HS1 := Lib.hid (SN.out.trans hS)
          clear hS
          go_wp2
          go_roundw
          case rel => exact ⟨q + 1, by omega, by go_num, ⟨l, HS1.out, HOK.out, HW.out⟩, hB⟩
          case measure => simp [intOf]; omega
        · have dp : (p == -1) = false := by simp [hp0]
          have dp2 : ¬ p = -1 := hp0
          cases i1 : inB p 0 ((nl : Int) - 1)
          · have hS : stepL nl s l (so q) (go q) p = none := by
              simp [inB] at i1
              rw [stepL, if_neg (by omega), if_neg (by omega)]
            have EN := Lib.hid (leftS_none (SN.out.trans hS) np hlt2)
            clear hS
            go_wp2
            go_quiet (first | (go_at_call 68; exact Calls.quiet_of_same (flipw (c_lengthLot _ _ _ _))) | (go_at_call 43; exact Calls.quiet_of_same (flipw (c_within _ _ _ _))))
            go_wp2
            exact bodyPost_ret (v := .tuple #[.slice none 0 0, .bool false]) (by simp [results, Try.results52, go_sem]) rfl ⟨_, by rw [HS.out, EN.out]; rfl, (by rw [HS.out, EN.out]; intro l hl; cases hl), below_drewN hB.out _⟩
          · obtain ⟨m, rfl⟩ := Int.eq_ofNat_of_zero_le (show 0 ≤ p by simp [inB] at i1; omega)
            have hm : m < nl := by simp [inB] at i1; omega
            have m0 : (0 : Int) ≤ (m : Int) := by omega
            have m1 : (m : Int) < (nl : Int) := by omega
            obtain ⟨l0, l1⟩ := HOK.out.bd m
            obtain ⟨ga, rfl, hga⟩ := hA' (by omega)
            obtain ⟨al, hal, s0, s1⟩ := (HL.out.below hB.out).at_ m hm
            have hgl : (nums .i64 l)[m]? = some (.int .i64 (gi l m)) := nums_get (by rw [HOK.out.len]; exact hm)
            obtain ⟨x0, f0⟩ := own_get HW.out hgl
            have hst : stepL nl s l (so q) (go q) (m : Int) = if s m = so q ∧ go q ≤ gi l m then some (l.set m (gi l m - go q)) else none := by
              rw [stepL, if_neg (by omega), Int.toNat_natCast]
              by_cases hc : s m = so q ∧ go q ≤ gi l m
              · rw [if_pos hc, if_pos ⟨by omega, by omega, hc.1, hc.2⟩]
              · rw [if_neg hc, if_neg (fun h => hc ⟨h.2.2.1, h.2.2.2⟩)]
            have SN2 := Lib.hid (SN.out.trans hst)
            have HZm := Lib.hid hpz
            clear hst hpz hgl
            subst hal
            by_cases hsh : s m = so q
            · rw [hsh] at s0
              by_cases hge : go q ≤ gi l m
              · have dg : decide (gi l m < go q) = false := by simp; omega
                have HS1 := Lib.hid (SN2.out.trans (if_pos ⟨hsh, hge⟩))
                have HK := Lib.hid (HOK.out.set hm (v := gi l m - go q) (by omega) (by omega))
                go_wp2
                go_quiet (first | (go_at_call 68; exact Calls.quiet_of_same (flipw (c_lengthLot _ _ _ _))) | (go_at_call 43; exact Calls.quiet_of_same (flipw (c_within _ _ _ _))))
                go_wp2
                have hB1 : Hid (Below w.heap.size w (wr.drewN nq)) := below_drewN hB.out nq
                have hW1 : Hid ((wr.drewN nq).ownsRow w.heap.size 2 1 (.slice (some ⟨ga, 0, none⟩) nl c') nl (nums .i64 l)) := HW.out
                have o1' : (wr.drewN nq).cell? ⟨(ao.add (q * 2)).block, (ao.add (q * 2)).off + 1, none⟩ = some (.int .i16 (go q)) := o1
                have x1 : (wr.drewN nq).cell? ⟨ga, m, none⟩ = some (.int .i64 (gi l m)) := x0
                have f1 : (wr.drewN nq).frozen? ⟨ga, m, none⟩ = false := f0
                clear p0 o0 o1 s0 s1 x0 f0 HW hB
                generalize wr.drewN nq = wn at *
                go_still_tail 12, (by kernel_rfl)
                change wpList _ _ _ _ _ wn.drew
                have hB2 : Hid (Below w.heap.size w wn.drew) := below_drew hB1.out
                have hW2 : Hid (wn.drew.ownsRow w.heap.size 2 1 (.slice (some ⟨ga, 0, none⟩) nl c') nl (nums .i64 l)) := own_drew hW1.out
                have x2 : wn.drew.cell? ⟨ga, m, none⟩ = some (.int .i64 (gi l m)) := x1
                have f2 : wn.drew.frozen? ⟨ga, m, none⟩ = false := f1
                clear o1' x1 f1 hW1 hB1
                generalize wn.drew = wd at *
                go_wp2
                have hW3 : Hid ((wd.setCell ⟨ga, m, none⟩ (.int .i64 (gi l m - go q))).ownsRow w.heap.size 2 1 (.slice (some ⟨ga, 0, none⟩) nl c') nl (nums .i64 (l.set m (gi l m - go q)))) := by
                  have := own_set hW2.out m (by omega) (.int .i64 (gi l m - go q))
                  rw [numsL_set] at this
                  exact this
                have hB3 : Hid (Below w.heap.size w (wd.setCell ⟨ga, m, none⟩ (.int .i64 (gi l m - go q)))) := hB2.out.setCell hga _
                go_roundw
                case rel => exact ⟨q + 1, by omega, by go_num, ⟨_, HS1.out, HK.out, hW3.out⟩, hB3⟩
                case measure => simp [intOf]; omega
              · have dg : decide (gi l m < go q) = true := by simp; omega
                have EN := Lib.hid (leftS_none (SN2.out.trans (if_neg (fun h => hge h.2))) np hlt2)
                go_wp2
                go_quiet (first | (go_at_call 68; exact Calls.quiet_of_same (flipw (c_lengthLot _ _ _ _))) | (go_at_call 43; exact Calls.quiet_of_same (flipw (c_within _ _ _ _))))
                go_wp2
                exact bodyPost_ret (v := .tuple #[.slice none 0 0, .bool false]) (by simp [results, Try.results52, go_sem]) rfl ⟨_, by rw [HS.out, EN.out]; rfl, (by rw [HS.out, EN.out]; intro l hl; cases hl), below_drewN hB.out _⟩
            · have dg : (s m != so q) = true := by simp [hsh]
              have EN := Lib.hid (leftS_none (SN2.out.trans (if_neg (fun h => hsh h.1))) np hlt2)
              go_wp2
              go_quiet (first | (go_at_call 68; exact Calls.quiet_of_same (flipw (c_lengthLot _ _ _ _))) | (go_at_call 43; exact Calls.quiet_of_same (flipw (c_within _ _ _ _))))
              go_wp2
              exact bodyPost_ret (v := .tuple #[.slice none 0 0, .bool false]) (by simp [results, Try.results52, go_sem]) rfl ⟨_, by rw [HS.out, EN.out]; rfl, (by rw [HS.out, EN.out]; intro l hl; cases hl), below_drewN hB.out _⟩
      · obtain rfl : q = np := by omega
        have d2 : decide ((q : Int) < (q : Int)) = false := by simp
        have HS1 := Lib.hid (HS.out.trans hl)
        clear hI hl hok hown
        go_wp2
        exact bodyPost_ret (v := .tuple #[.slice A1 nl c', .bool true]) (by simp [results, Try.results52, go_sem]) rfl ⟨_, by rw [HS1.out]; rfl, (by rw [HS1.out]; intro l2 hl2; cases hl2; exact HW.out), hB.out⟩
  · have dn : ((np : Int) != (no : Int)) = true := by simp; omega
    have HS : Hid (leftF nl no np s g so go zs = none) := by rw [Hid, leftF, if_neg hnn]
    have dn2 : ¬ ((np : Int) = (no : Int)) := by omega
    go_enter Try.func52, Try.ntmps52
    go_wp2
    exact bodyPost_ret (v := .tuple #[.slice none 0 0, .bool false]) (by simp [results, Try.results52, go_sem]) rfl ⟨_, by rw [HS.out]; rfl, (by rw [HS.out]; intro l hl; cases hl), by (repeat (first | with_reducible exact Below.refl _ _ | with_reducible refine below_alloc ?_ _ | with_reducible refine below_drew ?_ | with_reducible refine below_drewN ?_ _ | with_reducible refine below_then ?_ (by assumption)))⟩
end Go.Proofs.Ytfdljhepfoppaaa
