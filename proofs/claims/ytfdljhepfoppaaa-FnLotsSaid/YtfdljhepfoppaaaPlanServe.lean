/- The search through all right plans: serve, by induction on how many orders are left. -/
import Derived.Test.YtfdljhepfoppaaaPlanImpl
import Derived.Deep.QuietTactic
import Derived.BigQuiet
namespace Go.Proofs.Ytfdljhepfoppaaa
open Go.RowKit
set_option linter.unusedVariables false
set_option linter.unusedSimpArgs false
set_option maxRecDepth 100000

theorem gi_set_same {L : List Int} {k : Nat} (h : k < L.length) (z : Int) : gi (L.set k z) k = z := by
  simp [gi, List.getD_eq_getElem?_getD, h]
theorem set_back {L : List Int} {k : Nat} (h : k < L.length) (z : Int) : (L.set k z).set k (gi L k) = L := by
  rw [List.set_set]
  have : gi L k = L[k] := by simp [gi, List.getD_eq_getElem?_getD, h]
  rw [this, List.set_getElem_self]
theorem take_set_snoc {P : List Int} {i : Nat} (h : i < P.length) (z : Int) : (P.set i z).take (i + 1) = P.take i ++ [z] := by
  rw [List.take_add_one, List.getElem?_set_self h, List.take_set, List.set_eq_of_length_le (by simp; omega)]
  rfl
theorem GoodV.snoc {nl : Nat} {all : Bool} {P Lf Lf' : List Int} {z : Int} (h : GoodV nl all P Lf) (hz : -1 ≤ z ∧ z < (nl : Int) ∧ (all = true → 0 ≤ z)) (hl : LeftOk nl Lf') : GoodV nl all (P ++ [z]) Lf' :=
  ⟨fun y hy => by
    rcases List.mem_append.1 hy with hy | hy
    · exact h.p y hy
    · obtain rfl : y = z := by simpa using hy
      exact hz, hl⟩
set_option maxHeartbeats 8000000 in
theorem c_serve {D : PLay} {A B : Option Addr} {c c1 : Nat} {all : Bool} {s g so go : Nat → Int} {F : Nat} {caps : Array Value} {gN pO pD pPl pLe pL pS pA : Nat} (X : PBox D A B c c1 all s g so go F caps gN pO pD pPl pLe pL pS pA)
    (heF : ∀ args w, (callFunc F args).run Try.prog w = .ok (.enter F args) w)
    (heC : ∀ args w, (callFunc 58 args).run Try.prog w = .ok (.enter 58 args) w)
    (heS : ∀ args w, (callFunc 69 args).run Try.prog w = .ok (.enter 69 args) w)
    (hnum : ∀ P Lf o w, PS D P Lf o w → GoodV D.nl all P Lf → Calls Try.prog F (#[.slice (some ⟨D.bp, 0, none⟩) D.no D.no, D.vl] ++ caps) w fun e w' => e = .returned (.int .i64 (D.f (P, Lf))) ∧ Below w.heap.size w w') :
    ∀ (rem i : Nat) (P Lf : List Int) (o : Option Visit) (w : World), i + rem = D.no → PS D P Lf o w → GoodV D.nl all (P.take i) Lf →
    Calls Try.prog 69 #[.int .i64 (i : Int), .pointer (some ⟨pO, 0, none⟩), .pointer (some ⟨pD, 0, none⟩), .pointer (some ⟨pPl, 0, none⟩), .pointer (some ⟨pLe, 0, none⟩), .pointer (some ⟨pL, 0, none⟩), .pointer (some ⟨pS, 0, none⟩), .pointer (some ⟨pA, 0, none⟩)] w fun e w' => e = .returned (.tuple #[]) ∧ ∃ P', P'.take i = P.take i ∧ PS D P' Lf (bestV D.f o (visits D.nl s so go all rem i (P.take i) Lf)) w' := by
  intro rem
  induction rem with
  | zero =>
    intro i P Lf o w hi h hv
    obtain rfl : i = D.no := by omega
    have ht : P.take D.no = P := by rw [← h.lp, List.take_length]
    rw [ht] at hv
    have HCB := Lib.hid (c_cb X heF hnum P Lf o w h hv)
    have cO := h.box X.mO
    have cD := h.box X.mD
    have cP := h.box X.mP
    have cV := h.box X.mV
    have HT := Lib.hid ht
    clear hnum X hv h ht hi
    go_enter Try.func69, Try.ntmps69
    go_wp2_with ((with_reducible refine HCB.out.mono ?_); rintro e w1 ⟨rfl, hS⟩; have HS := Lib.hid hS; clear hS)
    exact bodyPost_ret (v := .tuple #[]) (by simp [results, Try.results69, go_sem]) rfl ⟨rfl, P, rfl, by rw [HT.out]; exact HS.out⟩
  | succ rem ih =>
    intro i P Lf o w hi h hv
    have hin : i < D.no := by omega
    have dne : ((i : Int) == (D.no : Int)) = false := by simp; omega
    have cO := h.box X.mO
    have cL := h.box X.mL
    have HX := Lib.hid X
    have HS := Lib.hid h
    have HV := Lib.hid hv
    have HIH := Lib.hid ih
    obtain ⟨ao, rfl, o0, o1⟩ := (X.hO.below h.b).at_ i hin
    obtain ⟨gp1, gp2⟩ := X.bo i hin
    have i0 : (0 : Int) ≤ (i : Int) := by omega
    have i1 : (i : Int) < (D.no : Int) := by omega
    have hno7 := X.no7
    have hnl6 := X.nl6
    have HHI := Lib.hid hi
    clear X h hv ih hnum hi
    go_enter Try.func69, Try.ntmps69
    go_wp2
    go_loopw [28] (fun iv wr => ∃ (k : Nat) (P' : List Int), iv = .int .i64 k ∧ k ≤ D.nl ∧ Hid (P'.take i = P.take i) ∧ Hid (PS D P' Lf (bestV D.f o (visK D.nl s so go all rem i (P.take i) Lf k)) wr)) (fun iv _ => D.nl - (intOf iv).toNat)
    case atStart => exact ⟨0, P, rfl, by omega, rfl, HS⟩
    case round =>
      obtain ⟨k, P', rfl, hk, hP', hS⟩ := hrel
      by_cases hlt : k < D.nl
      · have d1 : decide ((k : Int) < (D.nl : Int)) = true := by simp; omega
        have k0 : (0 : Int) ≤ (k : Int) := by omega
        have k1 : (k : Int) < (D.nl : Int) := by omega
        obtain ⟨al, rfl, s0, s1⟩ := (HX.out.hL.below hS.out.b).at_ k hlt
        clear o0 o1 cO cL
        go_wp2
        have hS1 := Lib.hid (hS.out.alloc (.cells #[.int .i8 (s k), .int .i16 (g k)] 46 (0, 0)))
        have hbx := heap_alloc_new wr (.cells #[.int .i8 (s k), .int .i16 (g k)] 46 (0, 0))
        generalize wr.heap.size = b11 at *
        generalize wr.alloc (.cells #[.int .i8 (s k), .int .i16 (g k)] 46 (0, 0)) = wl at *
        clear s0 s1 hS
        have x0 : wl.cell? ⟨b11, 0, none⟩ = some (.int .i8 (s k)) := cell_of_row wl b11 0 _ _ _ hbx
        obtain ⟨ao', hao', o0, o1⟩ := (HX.out.hO.below hS1.out.b).at_ i hin
        cases hao'
        have cO := hS1.out.box HX.out.mO
        have cV := hS1.out.box HX.out.mV
        obtain ⟨AV, cV', hvl, hAV⟩ := own_form hS1.out.lf
        obtain ⟨bl, rfl, hbl⟩ := hAV (by omega)
        have HVL := Lib.hid hvl
        rw [hvl] at cV
        have xl := (own_get (hvl ▸ hS1.out.lf) (nums_get (k := .i64) (zs := Lf) (j := k) (by rw [HV.out.l.len]; exact hlt))).1
        obtain ⟨v0, v1⟩ := HV.out.l.bd k
        clear hbx hvl hAV
        by_cases hs : s k = so i
        · have ds : (s k == so i) = true := by simpa using hs
          by_cases hge : go i ≤ gi Lf k
          · have dg : decide (go i ≤ gi Lf k) = true := by simpa using hge
            have hfit : fitB s so go Lf i k = true := by simp [fitB, hs, hge]
            have VN := Lib.hid (visK_yes (nl := D.nl) (all := all) (rem := rem) (plan := P.take i) hfit)
            have hlen : P'.length = D.no := hS1.out.lp
            have hLl : Lf.length = D.nl := HV.out.l.len
            have HTK : Hid ((P'.set i (k : Int)).take (i + 1) = P.take i ++ [(k : Int)]) := by rw [Hid, take_set_snoc (by omega), hP'.out]
            have HGV : Hid (GoodV D.nl all ((P'.set i (k : Int)).take (i + 1)) (less1 go Lf i k)) := by
              rw [Hid, HTK.out]; exact HV.out.snoc ⟨by omega, by omega, fun _ => by omega⟩ (HV.out.l.set hlt (by omega) (by omega))
            have HLS : Hid (less1 go Lf i k = Lf.set k (gi Lf k - go i)) := rfl
            have HBK : Hid ((Lf.set k (gi Lf k - go i)).set k (gi Lf k) = Lf) := set_back (by omega) _
            have HGS : Hid (gi (Lf.set k (gi Lf k - go i)) k = gi Lf k - go i) := gi_set_same (by omega) _
            have HLL : Hid ((Lf.set k (gi Lf k - go i)).length = D.nl) := by rw [Hid, List.length_set]; exact hLl
            have hw1 : IntKind.i64.wrap (gi Lf k - go i + go i) = gi Lf k := by rw [IntWalk.i64_in _ (by omega)]; omega
            clear hs hge hfit
            go_quiet (fail)
            rename_i nq
            have hS2 := Lib.hid (hS1.out.drewN nq)
            clear x0 o0 o1 cO cV xl hS1
            generalize wl.drewN nq = wd at *
            have HNE : Hid (∀ p ∈ D.S, p.1 ≠ D.bp ∧ p.1 ≠ bl) := fun p hp => ⟨(HX.out.ok.s p hp).1, fun e => (HX.out.ok.s p hp).2.2.2.2 (by rw [HVL.out, e]; rfl)⟩
            have hblp : ¬ bl = D.bp := fun e => HX.out.ok.vp (by rw [HVL.out, e]; rfl)
            have hpbl : ¬ D.bp = bl := fun e => hblp e.symm
            have q1 : ¬ pLe = D.bp := (HNE.out _ HX.out.mV).1
            have q2 : ¬ pS = D.bp := (HNE.out _ HX.out.mS).1
            have q3 : ¬ pS = bl := (HNE.out _ HX.out.mS).2
            have cP := hS2.out.box HX.out.mP
            have cV := hS2.out.box HX.out.mV
            rw [HVL.out] at cV
            have cS := hS2.out.box HX.out.mS
            have yP := nums_cell hS2.out.pl i (by omega)
            have fP := blk_frozen hS2.out.pl i
            obtain ⟨yL, fL⟩ := own_get (HVL.out ▸ hS2.out.lf) (nums_get (k := .i64) (zs := Lf) (j := k) (by omega))
            have hS3 := Lib.hid ((hS2.out.setPlan HX.out.ok i (k : Int)).setLeft HX.out.ok HVL.out k hlt (gi Lf k - go i))
            have IH := Lib.hid (HIH.out (i + 1) (P'.set i (k : Int)) (Lf.set k (gi Lf k - go i)) _ _ (by have := HHI.out; omega) hS3.out (by have := HGV.out; rw [HLS.out] at this; exact this))
            rw [HTK.out, Int.natCast_add] at IH
            go_wp2_with ((refine IH.out.mono ?_); rintro e w2 ⟨rfl, P2, hP2, hS4⟩; clear cP cV cS yP fP yL fL; have HS4 := Lib.hid hS4; have HP2 := Lib.hid hP2; have cV := hS4.box HX.out.mV; rw [HVL.out] at cV; have yL := own_get (HVL.out ▸ hS4.lf) (nums_get (k := .i64) (zs := Lf.set k (gi Lf k - go i)) (j := k) (by rw [HLL.out]; exact hlt)); rw [HGS.out] at yL; obtain ⟨yL, fL⟩ := yL; clear hS4 hP2)
            have hS5 := HS4.out.setLeft HX.out.ok HVL.out k hlt (gi Lf k)
            rw [HBK.out] at hS5
            have HS5 := Lib.hid hS5
            have HP3 : Hid (P2.take i = P.take i) := by
              have := congrArg (List.take i) HP2.out
              rw [List.take_take, Nat.min_eq_left (by omega), List.take_append_of_le_length (by rw [← hP'.out, List.length_take]; omega), List.take_take, Nat.min_self] at this
              exact this
            clear hS5 cV yL fL
            go_wp2
            go_roundw
            case rel => exact ⟨k + 1, P2, by go_num, by omega, HP3, by rw [Hid, VN.out, bestV_app]; exact HS5.out⟩
            case measure => simp [intOf]; omega
          · have dg : decide (go i ≤ gi Lf k) = false := by simpa using hge
            have hfit : fitB s so go Lf i k = false := by simp [fitB, hge]
            have VN := Lib.hid (visK_no (nl := D.nl) (all := all) (rem := rem) (plan := P.take i) hfit)
            clear hs hge hfit
            go_quiet (fail)
            go_wp2
            go_roundw
            case rel => exact ⟨k + 1, P', by go_num, by omega, hP', by rw [Hid, VN.out]; exact hS1.out.drewN _⟩
            case measure => simp [intOf]; omega
        · have ds : (s k == so i) = false := by simpa using hs
          have hfit : fitB s so go Lf i k = false := by simp [fitB, hs]
          have VN := Lib.hid (visK_no (nl := D.nl) (all := all) (rem := rem) (plan := P.take i) hfit)
          clear hs hfit
          go_quiet (fail)
          go_wp2
          go_roundw
          case rel => exact ⟨k + 1, P', by go_num, by omega, hP', by rw [Hid, VN.out]; exact hS1.out.drewN _⟩
          case measure => simp [intOf]; omega
      · obtain hkl : k = D.nl := by omega
        subst hkl
        have d1 : decide ((D.nl : Int) < (D.nl : Int)) = false := by simp
        have cA := hS.out.box HX.out.mA
        cases all with
        | true =>
          have VA := Lib.hid (visits_all (nl := D.nl) (s := s) (so := so) (go := go) rem i (P.take i) Lf rfl)
          go_wp2
          go_end0
          exact ⟨rfl, P', hP'.out, by rw [VA.out]; exact hS.out⟩
        | false =>
          have VA := Lib.hid (visits_some (nl := D.nl) (s := s) (so := so) (go := go) rem i (P.take i) Lf rfl)
          have hlen : P'.length = D.no := hS.out.lp
          have HTK : Hid ((P'.set i (-1)).take (i + 1) = P.take i ++ [-1]) := by rw [Hid, take_set_snoc (by omega), hP'.out]
          have HGV : Hid (GoodV D.nl false ((P'.set i (-1)).take (i + 1)) Lf) := by
            rw [Hid, HTK.out]; exact HV.out.snoc ⟨by omega, by omega, fun h => by cases h⟩ HV.out.l
          have q2 : ¬ pS = D.bp := (HX.out.ok.s _ HX.out.mS).1
          have cP := hS.out.box HX.out.mP
          have cS := hS.out.box HX.out.mS
          have yP := nums_cell hS.out.pl i (by omega)
          have fP := blk_frozen hS.out.pl i
          have hS3 := Lib.hid (hS.out.setPlan HX.out.ok i (-1))
          have IH := Lib.hid (HIH.out (i + 1) (P'.set i (-1)) Lf _ _ (by have := HHI.out; omega) hS3.out HGV.out)
          rw [HTK.out, Int.natCast_add] at IH
          go_wp2_with ((refine IH.out.mono ?_); rintro e w2 ⟨rfl, P2, hP2, hS4⟩; have HS4 := Lib.hid hS4; have HP2 := Lib.hid hP2; clear hS4 hP2)
          have HP3 : Hid (P2.take i = P.take i) := by
            have := congrArg (List.take i) HP2.out
            rw [List.take_take, Nat.min_eq_left (by omega), List.take_append_of_le_length (by rw [← hP'.out, List.length_take]; omega), List.take_take, Nat.min_self] at this
            exact this
          go_end0
          exact ⟨rfl, P2, HP3.out, by rw [VA.out, bestV_app]; exact HS4.out⟩
end Go.Proofs.Ytfdljhepfoppaaa
