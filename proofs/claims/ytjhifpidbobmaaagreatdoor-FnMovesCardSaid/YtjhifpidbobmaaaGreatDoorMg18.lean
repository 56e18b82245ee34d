/- Texts laid together: StabMerge, StabSort. -/
import Derived.Test.YtjhifpidbobmaaaGreatDoorMg17
import Derived.Deep.DeepCutAuto
/- slices.symMergeCmpFunc whole, at numbers (printed by stabsym.py). -/
namespace Go.Proofs.YtjhifpidbobmaaaGreatDoor
open Go.RowKit Go.Shelf Go.Lib Go.Sort
set_option linter.unusedVariables false
set_option linter.unusedSimpArgs false
variable {m0 : Nat}

set_option maxHeartbeats 16000000 in
set_option maxRecDepth 1000000 in
theorem c_symMerge (cf : Nat → Nat → Int) (T : Nat → Nat → Prop) (tr : ∀ x y z, T x y → T y z → T x z) (g : Nat) (cb : Array Value) (blk off cap n : Nat) (d0 : Array Nat) (w0 : World)
    (eg : ∀ args w, (callFunc g args).run Tryz.prog w = .ok (.enter g args) w) (hcmp : CmpLays1 Tryz.prog g cb (encN m0) cf blk off d0.size w0) (R : Row1 (encN m0) w0 blk off d0) (hn0 : d0.size = n) (hsz : n < 4611686018427387904) :
    ∀ N, ∀ (a m b : Nat) (d : Array Nat) (w : World), b - a ≤ N → d.size = n → SW (encN m0) w0 blk off d w → a < m → m < b → b ≤ n → Asc T a m d → Asc T m b d → Cross (ltOf cf) T a m b d →
    Calls Tryz.prog 92 #[.slice (some ⟨blk, off, none⟩) n cap, .int .i64 a, .int .i64 m, .int .i64 b, .func (.func g) #[] cb] w fun e w' => e = .returned (.tuple #[]) ∧ ∃ d', Mrg T a b d d' ∧ SW (encN m0) w0 blk off d' w' := by
  intro N
  induction N with
  | zero => intro a m b d w hN _ _ h1 h2; omega
  | succ N ih =>
  intro a m b d w hN hn S h1 h2 h3 hA hB hX
  by_cases c1 : m = a + 1
  · have := c_sym_fst cf T tr g cb blk off cap d0 w0 eg hcmp R (by omega) a m b d w (by omega) S c1 h2 (by omega) hB hX
    rwa [hn] at this
  by_cases c2 : b = m + 1
  · have := c_sym_lst cf T tr g cb blk off cap d0 w0 eg hcmp R (by omega) a m b d w (by omega) S (by omega) c2 (by omega) hA hX
    rwa [hn] at this
  have IH : Aside _ := ih
  have S0 : Aside (SW (encN m0) w0 blk off d w) := S
  have HX := Lib.hid hX
  have HA := Lib.hid hA
  have HBB := Lib.hid hB
  have HC : Aside _ := hcmp
  have HN := Lib.hid hN
  have hs : d0.size = d.size := by omega
  have e0 : ((m : Int) - (a : Int) == 1) = false := by simp; omega
  have e1 : ((b : Int) - (m : Int) == 1) = false := by simp; omega
  obtain ⟨q, hq⟩ : ∃ q : Nat, q = (a + b) / 2 := ⟨_, rfl⟩
  have hq1 : a < q := by omega
  have hq2 : q < b := by omega
  have hq3 : 2 * q ≤ a + b := by omega
  have hq4 : a + b ≤ 2 * q + 1 := by omega
  have e2 : ((a : Int) + (b : Int)) / 2 = (q : Int) := by omega
  obtain ⟨p, hp⟩ : ∃ p : Nat, p + 1 = q + m := ⟨q + m - 1, by omega⟩
  have e3 : (q : Int) + (m : Int) - 1 = (p : Int) := by omega
  have HP := Lib.hid hp
  obtain ⟨lo, hi, b1, b2, b3, b4, b5, b6, b7, b8, e4⟩ : ∃ lo hi : Nat, a ≤ lo ∧ hi ≤ m ∧ m + hi ≤ p + 1 ∧ p < lo + b ∧ (lo = a ∨ p + 1 = lo + b) ∧ (hi = m ∨ p + 1 = m + hi) ∧ lo ≤ hi ∧ hi ≤ q ∧ Hid ((q < m ∧ (q : Int) + (m : Int) - (b : Int) = (lo : Int) ∧ hi = q) ∨ (¬ q < m ∧ lo = a ∧ hi = m)) := by
    by_cases c : q < m
    · exact ⟨q + m - b, q, by omega, by omega, by omega, by omega, by omega, by omega, by omega, by omega, .inl ⟨c, by omega, rfl⟩⟩
    · exact ⟨a, m, by omega, by omega, by omega, by omega, by omega, by omega, by omega, by omega, .inr ⟨c, rfl, rfl⟩⟩
  have HB5 := Lib.hid b5
  have HB6 := Lib.hid b6
  have HC1 := Lib.hid c1
  have HC2 := Lib.hid c2
  have hpn : p + 1 < 2 * n := by omega
  rw [← hn] at hsz
  rw [← hn]
  have hbn : b ≤ d.size := by omega
  have HNN := Lib.hid hn
  have hpd : p + 1 < 2 * d.size := by omega
  clear ih S hX hA hB hcmp hN c1 c2 hq hp b5 b6 hn hpn h3
  have mixed : Tryz.prog.follows Departure.mixedOrders = true := by kernel_rfl
  have hcl0 := R.hO.cells
  simp only [Value.cells] at hcl0
  have hst := R.hO.store Tryz.prog
  go_enter Tryz.func92, Tryz.ntmps92
  go_upto_region 27 with fail
  go_cut [140] (fun v wx => v = .bool (decide (q < m)) ∧ Aside (SW (encN m0) w0 blk off d wx))
  case first => as_aux_lemma =>
    by_cases x1 : q < m
    · have y1 : decide (q < m) = true := by simpa using x1
      have z1 : decide ((q : Int) < (m : Int)) = true := by simp; omega
      clear x1
      go_wp2
      go_meet
      exact ⟨by rw [y1], S0⟩
    · have y1 : decide (q < m) = false := by simpa using x1
      have z1 : decide ((q : Int) < (m : Int)) = false := by simp; omega
      clear x1
      go_wp2
      go_meet
      exact ⟨by rw [y1], S0⟩
  case rest =>
  obtain ⟨rfl, S1⟩ := hcut
  clear S0
  go_upto_if 140 with fail
  go_cut [20, 21] (fun sv rv wx => sv = .int .i64 (lo : Int) ∧ rv = .int .i64 (hi : Int) ∧ Aside (SW (encN m0) w0 blk off d wx))
  case first => as_aux_lemma =>
    rcases e4.out with ⟨k1, k2, k3⟩ | ⟨k1, k2, k3⟩
    · have y1 : decide (q < m) = true := by simpa using k1
      have K2 := Lib.hid k2
      have K3 := Lib.hid k3
      clear k1 k2 k3
      rw [y1]
      clear y1
      go_wp2
      go_meet
      exact ⟨by rw [← K2.out], by rw [K3.out], S1⟩
    · have y1 : decide (q < m) = false := by simpa using k1
      have K2 := Lib.hid k2
      have K3 := Lib.hid k3
      clear k1 k2 k3
      rw [y1]
      clear y1
      go_wp2
      go_meet
      exact ⟨by rw [K2.out], by rw [K3.out], S1⟩
  case rest =>
  clear S1
  obtain ⟨rfl, rfl, S1⟩ := hcut
  clear e4
  go_wp2
  go_loopw [20, 21] (fun iv jv wr => ∃ (s r : Nat), iv = .int .i64 (s : Int) ∧ jv = .int .i64 (r : Int) ∧ Hid (Cut T lo hi p s r d) ∧ Aside (SW (encN m0) w0 blk off d wr)) (fun i j _ => (intOf j).toNat - (intOf i).toNat)
  case atStart => exact ⟨lo, hi, rfl, rfl, ⟨Nat.le_refl _, b7, Nat.le_refl _, .inl rfl, .inl rfl⟩, S1⟩
  case round =>
    clear S1
    obtain ⟨s, r, rfl, rfl, HF, S1⟩ := hrel
    have f1 := HF.out.low
    have f2 := HF.out.le
    have f3 := HF.out.high
    by_cases hsr : s < r
    · have d1 : decide ((s : Int) < (r : Int)) = true := by simp; omega
      obtain ⟨c, hh⟩ : ∃ c : Nat, c = (s + r) / 2 := ⟨_, rfl⟩
      have hb1 : s ≤ c := by omega
      have hb2 : c < r := by omega
      have e5 : ((s : Int) + (r : Int)) / 2 = (c : Int) := by omega
      obtain ⟨f, hf⟩ : ∃ f : Nat, f + c = p := ⟨p - c, by omega⟩
      have e6 : (p : Int) - (c : Int) = (f : Int) := by omega
      have e7 : IntKind.i64.wrap ((p : Int) - (c : Int)) = (f : Int) := by rw [IntKind.wrap_i64]; omega
      have e8 : IntKind.i64.wrap (f : Int) = (f : Int) := by rw [IntKind.wrap_i64]; omega
      have hf1 : m ≤ f := by omega
      have hf2 : f < b := by omega
      have HF2 := Lib.hid hf
      clear hh hf
      cases hlv : ltOf cf d[f]! d[c]! with
      | false =>
        obtain ⟨iN, hiN⟩ : ∃ q, q = f := ⟨_, rfl⟩
        obtain ⟨jN, hjN⟩ : ∃ q, q = c := ⟨_, rfl⟩
        have ea : ((f : Int)).toNat = iN := by omega
        have pa : (0 : Int) ≤ (f : Int) := by omega
        have ba : (f : Int) < (d.size : Int) := by omega
        have ec : ((c : Int)).toNat = jN := by omega
        have pc : (0 : Int) ≤ (c : Int) := by omega
        have bc : (c : Int) < (d.size : Int) := by omega
        obtain ⟨x, hx⟩ : ∃ x, x = d[f]! := ⟨_, rfl⟩
        obtain ⟨y, hy⟩ : ∃ x, x = d[c]! := ⟨_, rfl⟩
        have la := S1.out.cl R (by omega) (f) (by omega)
        have lb := S1.out.cl R (by omega) (c) (by omega)
        rw [← hx, ← hiN] at la
        rw [← hy, ← hjN] at lb
        have hc := S1.out.cmp HC.out (by omega) x y
        have hv : ¬ cf x y < 0 := by rw [hx, hy]; exact of_decide_eq_false hlv
        have hd : decide (cf x y < 0) = false := decide_eq_false hv
        have HLV := Lib.hid hlv
        clear hx hy hiN hjN hlv
        go_wp2_with fail
        go_quiet_grown (first | (go_at_fn g; refine Calls.grown_of (hc _ _)))
        have S2 : Aside (SW (encN m0) w0 blk off d (grow (wr.drewN nq) osq)) := S1.out.grown nq osq
        clear la lb hc S1
        generalize grow (wr.drewN nq) osq = w2 at S2 ⊢
        clear nq osq
        go_wp2
        go_roundw
        case rel => exact ⟨c + 1, r, by go_num, rfl, ⟨by omega, by omega, f3, .inr (by have := HX.out.no c f (by omega) (by omega) hf1 hf2 HLV.out; rwa [show p + 1 - (c + 1) = f by have := HF2.out; omega]), HF.out.r⟩, S2⟩
        case measure => simp [intOf]; omega
      | true =>
        obtain ⟨iN, hiN⟩ : ∃ q, q = f := ⟨_, rfl⟩
        obtain ⟨jN, hjN⟩ : ∃ q, q = c := ⟨_, rfl⟩
        have ea : ((f : Int)).toNat = iN := by omega
        have pa : (0 : Int) ≤ (f : Int) := by omega
        have ba : (f : Int) < (d.size : Int) := by omega
        have ec : ((c : Int)).toNat = jN := by omega
        have pc : (0 : Int) ≤ (c : Int) := by omega
        have bc : (c : Int) < (d.size : Int) := by omega
        obtain ⟨x, hx⟩ : ∃ x, x = d[f]! := ⟨_, rfl⟩
        obtain ⟨y, hy⟩ : ∃ x, x = d[c]! := ⟨_, rfl⟩
        have la := S1.out.cl R (by omega) (f) (by omega)
        have lb := S1.out.cl R (by omega) (c) (by omega)
        rw [← hx, ← hiN] at la
        rw [← hy, ← hjN] at lb
        have hc := S1.out.cmp HC.out (by omega) x y
        have hv : cf x y < 0 := by rw [hx, hy]; exact of_decide_eq_true hlv
        have hd : decide (cf x y < 0) = true := decide_eq_true hv
        have HLV := Lib.hid hlv
        clear hx hy hiN hjN hlv
        go_wp2_with fail
        go_quiet_grown (first | (go_at_fn g; refine Calls.grown_of (hc _ _)))
        have S2 : Aside (SW (encN m0) w0 blk off d (grow (wr.drewN nq) osq)) := S1.out.grown nq osq
        clear la lb hc S1
        generalize grow (wr.drewN nq) osq = w2 at S2 ⊢
        clear nq osq
        go_wp2
        go_roundw
        case rel => exact ⟨s, c, rfl, rfl, ⟨f1, hb1, by omega, HF.out.l, .inr (by have := HX.out.yes c f (by omega) (by omega) hf1 hf2 HLV.out; rwa [show p - c = f by have := HF2.out; omega])⟩, S2⟩
        case measure => simp [intOf]; omega
    · obtain rfl : s = r := by omega
      have d1 : decide ((s : Int) < (s : Int)) = false := by simp
      have hcf := HF.out.facts tr HA.out HBB.out b1 b2 b3 b4 HB5.out HB6.out
      have hp := HP.out
      obtain ⟨e, he⟩ : ∃ e : Nat, e + s = q + m := ⟨q + m - s, by omega⟩
      have hee : p + 1 - s = e := by omega
      rw [hee] at hcf
      have e5 : (q : Int) + (m : Int) - (s : Int) = (e : Int) := by omega
      have s1 : a ≤ s := by omega
      have s2 : s ≤ m := by omega
      have s3 : m ≤ e := by omega
      have s4 : e ≤ b := by have := HB5.out; omega
      have s5 : s ≤ q := by omega
      have s6 : q ≤ e := by omega
      have H1 := Lib.hid hcf.1
      have H2 := Lib.hid hcf.2
      have HE := Lib.hid he
      have HQQ : Hid (s + (e - m) = q) := (by omega : s + (e - m) = q)
      have CR := Lib.hid (fun (x : s < m) (y : m < e) (wr : World) (S : Aside (SW (encN m0) w0 blk off d wr)) => c_rotate blk off cap s m e d0 d w0 wr (.func (.func g) #[] cb) R hs S.out x y (by omega) hsz)
      clear hcf hp hee he
      go_upto_region 39 with fail
      go_cut [185] (fun v wx => v = .bool (decide (s < m) && decide (m < e)) ∧ Aside (SW (encN m0) w0 blk off d wx))
      case first => as_aux_lemma =>
        by_cases x1 : s < m
        · have y1 : decide (s < m) = true := by simpa using x1
          have z1 : decide ((s : Int) < (m : Int)) = true := by simp; omega
          clear x1
          by_cases x2 : m < e
          · have y2 : decide (m < e) = true := by simpa using x2
            have z2 : decide ((m : Int) < (e : Int)) = true := by simp; omega
            clear x2
            go_wp2
            go_meet
            exact ⟨by rw [y1, y2]; rfl, S1⟩
          · have y2 : decide (m < e) = false := by simpa using x2
            have z2 : decide ((m : Int) < (e : Int)) = false := by simp; omega
            clear x2
            go_wp2
            go_meet
            exact ⟨by rw [y1, y2]; rfl, S1⟩
        · have y1 : decide (s < m) = false := by simpa using x1
          have z1 : decide ((s : Int) < (m : Int)) = false := by simp; omega
          clear x1
          go_wp2
          go_meet
          exact ⟨by rw [y1]; rfl, S1⟩
      case rest =>
      obtain ⟨rfl, S2⟩ := hcut
      clear S1
      go_upto_if 185 with fail
      go_cut [] (fun wx => ∃ d1, Hid (Rot s m e d d1) ∧ Aside (SW (encN m0) w0 blk off d1 wx))
      case first => as_aux_lemma =>
        by_cases x1 : s < m ∧ m < e
        · have y1 : (decide (s < m) && decide (m < e)) = true := by simpa using x1
          have C1 := Lib.hid (CR.out x1.1 x1.2 _ S2)
          rw [y1]
          clear x1 CR y1
          go_wp2_with (go_at_call 103; ((with_reducible refine C1.out.mono ?_); rintro e w1 ⟨rfl, d', k1, k2⟩; have K1 := Lib.hid k1; have K2 := Lib.hid k2; clear k1 k2))
          go_meet
          exact ⟨d', K1, K2⟩
        · have y1 : (decide (s < m) && decide (m < e)) = false := by
            rw [Bool.eq_false_iff]; intro hh; exact x1 (by simpa using hh)
          have x2 : Hid (s = m ∨ e = m) := (by omega : s = m ∨ e = m)
          rw [y1]
          clear x1 CR y1
          go_wp2
          go_meet
          have hno : Hid (Rot s m e d d) := by
            rcases x2.out with h | h
            · rw [h]; exact Rot.none_left d
            · rw [h]; exact Rot.none_right d s2
          exact ⟨d, hno, S2⟩
      case rest =>
      obtain ⟨d1, HR, S3⟩ := hcut
      clear S2 CR
      have hz1 := HR.out.size
      have HH : Hid (Halves T a s q e b d1) := (by have := halves_of tr HA.out HBB.out s1 s2 s3 s4 HR.out H1.out H2.out; rwa [HQQ.out] at this)
      have HXL : Hid (Cross (ltOf cf) T a s q d1) := (by have := HX.out.left HR.out s1 s2 s3 s4; rwa [HQQ.out] at this)
      have HXR : Hid (∀ d2, Moved a q d1 d2 → Cross (ltOf cf) T q e b d2) := (by intro d2 hm; have := HX.out.right HR.out s1 s2 s3 s4 (d2 := d2) (by rw [HQQ.out]; exact hm); rwa [HQQ.out] at this)
      have HMV := Lib.hid ((HR.out.moved s2 s3).mono s1 s4)
      have HZ1 : Hid (d1.size = d.size) := hz1
      clear hz1 HX HR H1 H2 HF HA HBB
      go_upto_region 41 with fail
      go_cut [199] (fun v wx => v = .bool (decide (a < s) && decide (s < q)) ∧ Aside (SW (encN m0) w0 blk off d1 wx))
      case first => as_aux_lemma =>
        by_cases x1 : a < s
        · have y1 : decide (a < s) = true := by simpa using x1
          have z1 : decide ((a : Int) < (s : Int)) = true := by simp; omega
          clear x1
          by_cases x2 : s < q
          · have y2 : decide (s < q) = true := by simpa using x2
            have z2 : decide ((s : Int) < (q : Int)) = true := by simp; omega
            clear x2
            go_wp2
            go_meet
            exact ⟨by rw [y1, y2]; rfl, S3⟩
          · have y2 : decide (s < q) = false := by simpa using x2
            have z2 : decide ((s : Int) < (q : Int)) = false := by simp; omega
            clear x2
            go_wp2
            go_meet
            exact ⟨by rw [y1, y2]; rfl, S3⟩
        · have y1 : decide (a < s) = false := by simpa using x1
          have z1 : decide ((a : Int) < (s : Int)) = false := by simp; omega
          clear x1
          go_wp2
          go_meet
          exact ⟨by rw [y1]; rfl, S3⟩
      case rest =>
      obtain ⟨rfl, S4⟩ := hcut
      clear S3
      go_upto_if 199 with fail
      go_cut [] (fun wx => ∃ d2, Hid (Mrg T a q d1 d2) ∧ Aside (SW (encN m0) w0 blk off d2 wx))
      case first => as_aux_lemma =>
        by_cases x1 : a < s ∧ s < q
        · have y1 : (decide (a < s) && decide (s < q)) = true := by simpa using x1
          have hNN := HN.out
          have C1 := IH.out a s q d1 _ (by omega) (HZ1.out.trans HNN.out) S4.out x1.1 x1.2 (by have := HNN.out; omega) HH.out.h1 HH.out.h2 HXL.out
          rw [← HNN.out] at C1
          have C2 := Lib.hid C1
          rw [y1]
          clear x1 y1 C1 hNN IH
          go_wp2_with (go_at_call 92; ((with_reducible refine C2.out.mono ?_); rintro e w1 ⟨rfl, d', k1, k2⟩; have K1 := Lib.hid k1; have K2 := Lib.hid k2; clear k1 k2))
          go_meet
          exact ⟨d', K1, K2⟩
        · have y1 : (decide (a < s) && decide (s < q)) = false := by
            rw [Bool.eq_false_iff]; intro hh; exact x1 (by simpa using hh)
          have x2 : Hid (s = a ∨ s = q) := (by omega : s = a ∨ s = q)
          rw [y1]
          clear x1 y1
          go_wp2
          go_meet
          exact ⟨d1, Mrg.skip HH.out.h1 HH.out.h2 x2.out, S4⟩
      case rest =>
      obtain ⟨d2, HM2, S5⟩ := hcut
      clear S4 HXL
      have hr := HH.out.right HM2.out.mv s6
      have HR3 := Lib.hid hr.1
      have HR4 := Lib.hid hr.2
      have HXR2 := Lib.hid (HXR.out d2 HM2.out.mv)
      have HZ2 := Lib.hid (HM2.out.mv.size.trans HZ1.out)
      clear hr HXR
      go_upto_region 43 with fail
      go_cut [213] (fun v wx => v = .bool (decide (q < e) && decide (e < b)) ∧ Aside (SW (encN m0) w0 blk off d2 wx))
      case first => as_aux_lemma =>
        by_cases x1 : q < e
        · have y1 : decide (q < e) = true := by simpa using x1
          have z1 : decide ((q : Int) < (e : Int)) = true := by simp; omega
          clear x1
          by_cases x2 : e < b
          · have y2 : decide (e < b) = true := by simpa using x2
            have z2 : decide ((e : Int) < (b : Int)) = true := by simp; omega
            clear x2
            go_wp2
            go_meet
            exact ⟨by rw [y1, y2]; rfl, S5⟩
          · have y2 : decide (e < b) = false := by simpa using x2
            have z2 : decide ((e : Int) < (b : Int)) = false := by simp; omega
            clear x2
            go_wp2
            go_meet
            exact ⟨by rw [y1, y2]; rfl, S5⟩
        · have y1 : decide (q < e) = false := by simpa using x1
          have z1 : decide ((q : Int) < (e : Int)) = false := by simp; omega
          clear x1
          go_wp2
          go_meet
          exact ⟨by rw [y1]; rfl, S5⟩
      case rest =>
      obtain ⟨rfl, S6⟩ := hcut
      clear S5
      by_cases x1 : q < e ∧ e < b
      · have y1 : (decide (q < e) && decide (e < b)) = true := by simpa using x1
        have hNN := HN.out
        have C1 := IH.out q e b d2 _ (by omega) (HZ2.out.trans HNN.out) S6.out x1.1 x1.2 (by have := HNN.out; omega) HR3.out HR4.out HXR2.out
        rw [← HNN.out] at C1
        have C2 := Lib.hid C1
        rw [y1]
        clear x1 y1 C1 hNN IH
        go_wp2_with (go_at_call 92; ((with_reducible refine C2.out.mono ?_); rintro e w1 ⟨rfl, d', k1, k2⟩; have K1 := Lib.hid k1; have K2 := Lib.hid k2; clear k1 k2))
        go_end0
        exact ⟨rfl, d', .of_rot HMV.out (.join HH.out (by omega) (by omega) HM2.out K1.out), K2.out⟩
      · have y1 : (decide (q < e) && decide (e < b)) = false := by
          rw [Bool.eq_false_iff]; intro hh; exact x1 (by simpa using hh)
        have x2 : Hid (e = q ∨ e = b) := (by omega : e = q ∨ e = b)
        rw [y1]
        clear x1 y1
        go_wp2
        go_end0
        exact ⟨rfl, d2, .of_rot HMV.out (.join HH.out (by omega) (by omega) HM2.out (Mrg.skip HR3.out HR4.out x2.out)), S6.out⟩
end Go.Proofs.YtjhifpidbobmaaaGreatDoor
/- slices.stableCmpFunc over at most 60 places: places 0, 1, .. in the order of their keys, the greatest first, equals as they stood. -/
namespace Go.Proofs.YtjhifpidbobmaaaGreatDoor
open Go.RowKit Go.Shelf Go.Lib Go.Sort
set_option linter.unusedVariables false
set_option linter.unusedSimpArgs false

/-- A part that holds its own places, in order. -/
structure Seg (T : Nat → Nat → Prop) (l r : Nat) (d : Array Nat) : Prop where
  asc : Asc T l r d
  inn : ∀ p, l ≤ p → p < r → l ≤ d[p]! ∧ d[p]! < r
  onn : ∀ v, l ≤ v → v < r → ∃ p, l ≤ p ∧ p < r ∧ d[p]! = v
theorem Seg.nil {T : Nat → Nat → Prop} {l r : Nat} {d : Array Nat} (h : r ≤ l) : Seg T l r d := ⟨fun i j _ _ _ => by omega, fun p _ _ => by omega, fun v _ _ => by omega⟩
theorem Seg.congr {T : Nat → Nat → Prop} {l r : Nat} {d e : Array Nat} (h : Seg T l r d) (he : ∀ p, l ≤ p → p < r → e[p]! = d[p]!) : Seg T l r e :=
  ⟨h.asc.congr he, fun p h1 h2 => by rw [he p h1 h2]; exact h.inn p h1 h2, fun v h1 h2 => by
    obtain ⟨p, p1, p2, e⟩ := h.onn v h1 h2
    exact ⟨p, p1, p2, by rw [he p p1 p2, e]⟩⟩
theorem Seg.moved {T : Nat → Nat → Prop} {l r a b : Nat} {d e : Array Nat} (h : Seg T l r d) (hm : Moved a b d e) (hd : r ≤ a ∨ b ≤ l) : Seg T l r e := h.congr fun p h1 h2 => hm.out p (by omega)
theorem Seg.merge {T : Nat → Nat → Prop} {a m b : Nat} {d e : Array Nat} (h1 : Seg T a m d) (h2 : Seg T m b d) (ham : a ≤ m) (hmb : m ≤ b) (h : Mrg T a b d e) : Seg T a b e :=
  ⟨h.asc, fun p p1 p2 => by
    obtain ⟨j, j1, j2, ej⟩ := h.mv.back p p1 p2
    rw [ej]
    by_cases c : j < m
    · have := h1.inn j j1 c; omega
    · have := h2.inn j (by omega) j2; omega, fun v v1 v2 => by
    by_cases c : v < m
    · obtain ⟨p, p1, p2, ep⟩ := h1.onn v v1 c
      obtain ⟨q, q1, q2, eq⟩ := h.mv.forth p p1 (by omega)
      exact ⟨q, q1, q2, by rw [← eq, ep]⟩
    · obtain ⟨p, p1, p2, ep⟩ := h2.onn v (by omega) v2
      obtain ⟨q, q1, q2, eq⟩ := h.mv.forth p (by omega) p2
      exact ⟨q, q1, q2, by rw [← eq, ep]⟩⟩

section
variable (key : Nat → Int)
/-- The greater key first; equals as they stood. -/
def TK (i k : Nat) : Prop := key k < key i ∨ (key i = key k ∧ i < k)
/-- What the comparison says: negative, where the second's key is the lesser. -/
def cfK (i k : Nat) : Int := if key k < key i then -1 else if key i < key k then 1 else 0
theorem TK.trans (x y z : Nat) (h : TK key x y) (k : TK key y z) : TK key x z := by unfold TK at *; omega
theorem TK.irrefl (x : Nat) : ¬ TK key x x := by unfold TK; omega
theorem TK.asymm {x y : Nat} (h : TK key x y) : ¬ TK key y x := by unfold TK at *; omega
theorem TK.total {x y : Nat} (h : x ≠ y) : TK key x y ∨ TK key y x := by unfold TK; omega
theorem lt_cfK (x y : Nat) : ltOf (cfK key) x y = decide (key y < key x) := by
  unfold ltOf cfK
  by_cases h : key y < key x
  · rw [if_pos h]; simp [h]
  · rw [if_neg h]
    split <;> simp [h]
theorem TK.yes {x y : Nat} (h : x < y) (k : ltOf (cfK key) y x = true) : TK key y x := by
  rw [lt_cfK, decide_eq_true_eq] at k; exact .inl k
theorem TK.no {x y : Nat} (h : x < y) (k : ltOf (cfK key) y x = false) : TK key x y := by
  rw [lt_cfK, decide_eq_false_iff_not] at k; unfold TK; omega
variable {key}
theorem cross_seg {a m b : Nat} {d : Array Nat} (h1 : Seg (TK key) a m d) (h2 : Seg (TK key) m b d) : Cross (ltOf (cfK key)) (TK key) a m b d :=
  ⟨fun i j a1 a2 b1 b2 k => TK.yes key (by have := h1.inn i a1 a2; have := h2.inn j b1 b2; omega) k, fun i j a1 a2 b1 b2 k => TK.no key (by have := h1.inn i a1 a2; have := h2.inn j b1 b2; omega) k⟩
theorem insInner_law {a : Nat} : ∀ (j : Nat) (d : Array Nat), a ≤ j → j < d.size → Asc (TK key) a j d → (∀ p, a ≤ p → p < j → d[p]! < d[j]!) → Asc (TK key) a (j + 1) (insInner (ltOf (cfK key)) a j d) ∧ Moved a (j + 1) d (insInner (ltOf (cfK key)) a j d) := by
  intro j
  induction j with
  | zero =>
    intro d h1 h2 h3 h4
    rw [insInner_stop _ _ _ _ (.inl (Nat.zero_le _))]
    exact ⟨fun p q _ _ _ => by omega, .refl _ _ _⟩
  | succ j ih =>
    intro d h1 h2 h3 h4
    by_cases c : a < j + 1
    · cases hl : ltOf (cfK key) d[j + 1]! d[j]!
      · rw [insInner_stop _ _ _ _ (.inr (by simpa using hl))]
        refine ⟨fun p q p1 p2 p3 => ?_, .refl _ _ _⟩
        by_cases e : q < j + 1
        · exact h3 p q p1 p2 e
        · obtain rfl : q = j + 1 := by omega
          have hj := TK.no key (h4 j (by omega) (by omega)) hl
          by_cases e2 : p = j
          · subst e2; exact hj
          · exact TK.trans key _ _ _ (h3 p j p1 (by omega) (by omega)) hj
      · rw [insInner_go _ _ _ _ c (by simpa using hl)]
        simp only [Nat.add_sub_cancel]
        have hz : (swp d (j + 1) j).size = d.size := swp_size _ _ _
        have g : ∀ k, (swp d (j + 1) j)[k]! = if k = j then d[j + 1]! else if k = j + 1 then d[j]! else d[k]! := fun k => by rw [swp_get d h2 (by omega) k]
        have ge : ∀ k, k < j → (swp d (j + 1) j)[k]! = d[k]! := fun k hk => by rw [g, if_neg (by omega), if_neg (by omega)]
        have gj : (swp d (j + 1) j)[j]! = d[j + 1]! := by rw [g, if_pos rfl]
        have gk : (swp d (j + 1) j)[j + 1]! = d[j]! := by rw [g, if_neg (by omega), if_pos rfl]
        obtain ⟨k1, k2⟩ := ih (swp d (j + 1) j) (by omega) (by omega) (fun p q p1 p2 p3 => by rw [ge p (by omega), ge q p3]; exact h3 p q p1 p2 (by omega)) (fun p p1 p2 => by rw [ge p p2, gj]; exact h4 p p1 (by omega))
        have hT := TK.yes key (h4 j (by omega) (by omega)) hl
        have mS : Moved a (j + 2) d (swp d (j + 1) j) := ⟨hz, fun p hp => by rw [g, if_neg (by omega), if_neg (by omega)], fun i i1 i2 => by
          by_cases e1 : i = j
          · exact ⟨j + 1, by omega, by omega, by rw [e1, gj]⟩
          · by_cases e2 : i = j + 1
            · exact ⟨j, by omega, by omega, by rw [e2, gk]⟩
            · exact ⟨i, i1, by omega, ge i (by omega)⟩, fun i i1 i2 => by
          by_cases e1 : i = j
          · exact ⟨j + 1, by omega, by omega, by rw [e1, gk]⟩
          · by_cases e2 : i = j + 1
            · exact ⟨j, by omega, by omega, by rw [e2, gj]⟩
            · exact ⟨i, i1, by omega, (ge i (by omega)).symm⟩⟩
        refine ⟨fun p q p1 p2 p3 => ?_, mS.trans (k2.mono (Nat.le_refl _) (by omega))⟩
        by_cases e : q < j + 1
        · exact k1 p q p1 p2 e
        · obtain rfl : q = j + 1 := by omega
          obtain ⟨i, i1, i2, ei⟩ := k2.back p p1 p2
          rw [ei, k2.out (j + 1) (.inr (Nat.le_refl _)), gk]
          by_cases e2 : i = j
          · subst e2; rw [gj]; exact hT
          · rw [ge i (by omega)]; exact h3 i j i1 (by omega) (by omega)
    · rw [insInner_stop _ _ _ _ (.inl (by omega))]
      exact ⟨fun p q _ _ _ => by omega, .refl _ _ _⟩
theorem insOuter_law {a b : Nat} : ∀ (n i : Nat) (d : Array Nat), b - i = n → a ≤ i → i ≤ b → b ≤ d.size → Seg (TK key) a i d → (∀ p, i ≤ p → p < b → d[p]! = p) → Seg (TK key) a b (insOuter (ltOf (cfK key)) a b i d) ∧ Moved a b d (insOuter (ltOf (cfK key)) a b i d) := by
  intro n
  induction n with
  | zero =>
    intro i d hn h1 h2 h3 h4 h5
    obtain rfl : i = b := by omega
    rw [insOuter_stop _ _ _ _ _ (by omega)]
    exact ⟨h4, .refl _ _ _⟩
  | succ n ih =>
    intro i d hn h1 h2 h3 h4 h5
    rw [insOuter_go _ _ _ _ _ (by omega)]
    have e : d[i]! = i := h5 i (Nat.le_refl _) (by omega)
    obtain ⟨k1, k2⟩ := insInner_law (key := key) (a := a) i d h1 (by omega) h4.asc (fun p p1 p2 => by rw [e]; exact (h4.inn p p1 p2).2)
    obtain ⟨m1, m2⟩ := ih (i + 1) _ (by omega) (by omega) (by omega) (by rw [k2.size]; exact h3) ⟨k1, fun p p1 p2 => by
      obtain ⟨j, j1, j2, ej⟩ := k2.back p p1 p2
      rw [ej]
      by_cases c : j < i
      · have := h4.inn j j1 c; omega
      · obtain rfl : j = i := by omega
        omega, fun v v1 v2 => by
      by_cases c : v < i
      · obtain ⟨p, p1, p2, ep⟩ := h4.onn v v1 c
        obtain ⟨q, q1, q2, eq⟩ := k2.forth p p1 (by omega)
        exact ⟨q, q1, q2, by rw [← eq, ep]⟩
      · obtain rfl : v = i := by omega
        obtain ⟨q, q1, q2, eq⟩ := k2.forth v h1 (by omega)
        exact ⟨q, q1, q2, by rw [← eq, e]⟩⟩ (fun p p1 p2 => by rw [k2.out p (by omega)]; exact h5 p (by omega) p2)
    exact ⟨m1, (k2.mono (Nat.le_refl _) (by omega)).trans m2⟩
theorem ins_seg {a b : Nat} {d : Array Nat} (h1 : a ≤ b) (h2 : b ≤ d.size) (h : ∀ p, a ≤ p → p < b → d[p]! = p) : Seg (TK key) a b (insertionSort (ltOf (cfK key)) d a b) ∧ Moved a b d (insertionSort (ltOf (cfK key)) d a b) := by
  unfold insertionSort
  by_cases c : a < b
  · refine insOuter_law (key := key) _ (a + 1) d rfl (by omega) (by omega) h2 ⟨fun p q _ _ _ => by omega, fun p p1 p2 => ?_, fun v v1 v2 => ⟨a, Nat.le_refl _, by omega, ?_⟩⟩ fun p p1 p2 => h p (by omega) p2
    · rw [h p p1 (by omega)]; omega
    · rw [h a (Nat.le_refl _) c]; omega
  · rw [insOuter_stop _ _ _ _ _ (by omega)]
    exact ⟨.nil (by omega), .refl _ _ _⟩
end
end Go.Proofs.YtjhifpidbobmaaaGreatDoor
