/- Rows of stitches: the reference's functions. -/
import Derived.Test.YtepdgbgolopejaaFabPure
namespace Go.Proofs.Ytepdgbgolopejaa
open Go.RowKit
set_option linter.unusedVariables false
set_option linter.unusedSimpArgs false
set_option maxRecDepth 100000

theorem strs_get {L : List (List UInt8)} {j : Nat} (h : j < L.length) : (strs L)[j]? = some (.string (str (L.getD j []))) := by
  simp [strs, List.getD_eq_getElem?_getD, h]
theorem u8_eq (c : UInt8) (n : Nat) (d : UInt8) (hd : d.toNat = n) : ((c.toNat : Int) == (n : Int)) = decide (c = d) := by
  by_cases h : c = d
  · subst h; simp [hd]
  · have : ¬ c.toNat = n := fun e => h (UInt8.toNat_inj.1 (e.trans hd.symm))
    simp only [h, decide_false, beq_eq_false_iff_ne, ne_eq]
    omega
theorem l05_takes_pure (c : UInt8) : (match stT c with | some s => s.1 | none => -1) = if c = 107 ∨ c = 105 ∨ c = 98 then 1 else if c = 100 then 2 else if c = 111 then 0 else (-1 : Int) := by
  unfold stT
  by_cases h1 : c = 107
  · subst h1; rfl
  · by_cases h2 : c = 100
    · subst h2; rfl
    · by_cases h3 : c = 105
      · subst h3; rfl
      · by_cases h4 : c = 111
        · subst h4; rfl
        · by_cases h5 : c = 98
          · subst h5; rfl
          · simp [h1, h2, h3, h4, h5]
def takV (c : UInt8) : Int := match stT c with | some s => s.1 | none => -1
theorem c_l05Takes (c : UInt8) (w : World) : Calls Try.prog 38 #[.int .u8 (c.toNat : Int)] w fun e w' => e = .returned (.int .i64 (takV c)) ∧ w = w' := by
  have E : Hid (takV c = _) := l05_takes_pure c
  have e1 := u8_eq c 107 107 rfl
  have e2 := u8_eq c 105 105 rfl
  have e3 := u8_eq c 98 98 rfl
  have e4 := u8_eq c 100 100 rfl
  have e5 := u8_eq c 111 111 rfl
  by_cases h1 : c = 107
  · have d1 : ((c.toNat : Int) == 107) = true := e1.trans (by simp [h1])
    have E := Lib.hid (E.out.trans (if_pos (.inl h1)))
    clear e1 e2 e3 e4 e5
    go_enter Try.func38, Try.ntmps38
    go_wp2
    go_ret
    exact ⟨by rw [E.out]; rfl, rfl⟩
  · have d1 : ((c.toNat : Int) == 107) = false := e1.trans (by simp [h1])
    by_cases h2 : c = 105
    · have d2 : ((c.toNat : Int) == 105) = true := e2.trans (by simp [h2])
      have E := Lib.hid (E.out.trans (if_pos (.inr (.inl h2))))
      clear e1 e2 e3 e4 e5
      go_enter Try.func38, Try.ntmps38
      go_wp2
      go_ret
      exact ⟨by rw [E.out]; rfl, rfl⟩
    · have d2 : ((c.toNat : Int) == 105) = false := e2.trans (by simp [h2])
      by_cases h3 : c = 98
      · have d3 : ((c.toNat : Int) == 98) = true := e3.trans (by simp [h3])
        have E := Lib.hid (E.out.trans (if_pos (.inr (.inr h3))))
        clear e1 e2 e3 e4 e5
        go_enter Try.func38, Try.ntmps38
        go_wp2
        go_ret
        exact ⟨by rw [E.out]; rfl, rfl⟩
      · have d3 : ((c.toNat : Int) == 98) = false := e3.trans (by simp [h3])
        have E := Lib.hid (E.out.trans (if_neg (by simp [h1, h2, h3])))
        by_cases h4 : c = 100
        · have d4 : ((c.toNat : Int) == 100) = true := e4.trans (by simp [h4])
          have E := Lib.hid (E.out.trans (if_pos h4))
          clear e1 e2 e3 e4 e5
          go_enter Try.func38, Try.ntmps38
          go_wp2
          go_ret
          exact ⟨by rw [E.out]; rfl, rfl⟩
        · have d4 : ((c.toNat : Int) == 100) = false := e4.trans (by simp [h4])
          by_cases h5 : c = 111
          · have d5 : ((c.toNat : Int) == 111) = true := e5.trans (by simp [h5])
            have E := Lib.hid (E.out.trans ((if_neg h4).trans (if_pos h5)))
            clear e1 e2 e3 e4 e5
            go_enter Try.func38, Try.ntmps38
            go_wp2
            go_ret
            exact ⟨by rw [E.out]; rfl, rfl⟩
          · have d5 : ((c.toNat : Int) == 111) = false := e5.trans (by simp [h5])
            have E := Lib.hid (E.out.trans ((if_neg h4).trans (if_neg h5)))
            clear e1 e2 e3 e4 e5
            go_enter Try.func38, Try.ntmps38
            go_wp2
            go_ret
            exact ⟨by rw [E.out]; rfl, rfl⟩
def makV (c : UInt8) : Int := if c = 105 then 2 else if c = 98 then 0 else 1
theorem makV_of {c : UInt8} {s : Int × Int × Int} (h : stT c = some s) : makV c = s.2.1 := by
  unfold stT at h
  split at h
  · injection h with h; subst h; rename_i e; subst e; rfl
  · split at h
    · injection h with h; subst h; rename_i e; subst e; rfl
    · split at h
      · injection h with h; subst h; rename_i e; subst e; rfl
      · split at h
        · injection h with h; subst h; rename_i e; subst e; rfl
        · split at h
          · injection h with h; subst h; rename_i e; subst e; rfl
          · cases h
theorem takV_of {c : UInt8} {s : Int × Int × Int} (h : stT c = some s) : takV c = s.1 := by simp [takV, h]
theorem takV_no {c : UInt8} (h : stT c = none) : takV c = -1 := by simp [takV, h]
theorem c_l05Makes (c : UInt8) (w : World) : Calls Try.prog 39 #[.int .u8 (c.toNat : Int)] w fun e w' => e = .returned (.int .i64 (makV c)) ∧ w = w' := by
  have e2 := u8_eq c 105 105 rfl
  have e3 := u8_eq c 98 98 rfl
  by_cases h2 : c = 105
  · have d2 : ((c.toNat : Int) == 105) = true := e2.trans (by simp [h2])
    have E : Hid (makV c = 2) := if_pos h2
    clear e2 e3
    go_enter Try.func39, Try.ntmps39
    go_wp2
    go_ret
    exact ⟨by rw [E.out]; rfl, rfl⟩
  · have d2 : ((c.toNat : Int) == 105) = false := e2.trans (by simp [h2])
    by_cases h3 : c = 98
    · have d3 : ((c.toNat : Int) == 98) = true := e3.trans (by simp [h3])
      have E : Hid (makV c = 0) := (if_neg h2).trans (if_pos h3)
      clear e2 e3
      go_enter Try.func39, Try.ntmps39
      go_wp2
      go_ret
      exact ⟨by rw [E.out]; rfl, rfl⟩
    · have d3 : ((c.toNat : Int) == 98) = false := e3.trans (by simp [h3])
      have E : Hid (makV c = 1) := (if_neg h2).trans (if_neg h3)
      clear e2 e3
      go_enter Try.func39, Try.ntmps39
      go_wp2
      go_ret
      exact ⟨by rw [E.out]; rfl, rfl⟩
theorem rowV_none {l : List UInt8} (h : rowS l = none) : rowV l = (0, 0, 0) ∧ (rowS l).isSome = false := by simp [rowV, h]
theorem rowV_some {l : List UInt8} {a : Int × Int × Int} (h : rowS l = some a) : rowV l = a ∧ (rowS l).isSome = true := by simp [rowV, h]
set_option maxHeartbeats 1000000 in
theorem c_l05Row (l : List UInt8) (hl : l.length ≤ 1048576) (w : World) :
    Calls Try.prog 51 #[.string (str l)] w fun e w' => e = .returned (.tuple #[.int .i64 (rowV l).1, .int .i64 (rowV l).2.1, .bool (rowS l).isSome]) ∧ w = w' := by
  have hsz : (str l).size = l.length := str_size l
  go_enter Try.func51, Try.ntmps51
  go_wp2
  go_loop [5, 6, 7] (fun a b i => ∃ k : Nat, k ≤ l.length ∧ i = .int .i64 k ∧ ∃ s : Int × Int × Int, rowS (l.take k) = some s ∧ a = .int .i64 s.1 ∧ b = .int .i64 s.2.1) (fun _ _ i => l.length - (intOf i).toNat)
  case atStart => exact ⟨0, by omega, rfl, (0, 0, 0), rfl, rfl, rfl⟩
  case round =>
    obtain ⟨k, hk, rfl, s, hs, rfl, rfl⟩ := hrel
    by_cases hlt : k < l.length
    · have d1 : decide ((k : Int) < (l.length : Int)) = true := by simp; omega
      obtain ⟨c, hcc⟩ : ∃ c, l[k]'hlt = c := ⟨_, rfl⟩
      have hgk : ∀ h, (str l)[k]'h = c := fun h => (str_get l k h hlt).trans hcc
      have hb := rowS_bd _ _ hs
      have hlk : (l.take k).length ≤ k := by rw [List.length_take]; omega
      have HN := Lib.hid (rowS_take hlt)
      rw [hcc] at HN
      have HS := Lib.hid hs
      clear hs hcc
      cases hc : stT c with
      | none =>
        have CT := fun w => Lib.hid (takV_no hc ▸ c_l05Takes c w)
        have HR : Hid (rowS l = none) := rowS_none (k := k + 1) (by rw [HN.out, HS.out]; simp [stAdd, hc])
        have E := Lib.hid (rowV_none HR.out)
        clear hc HN
        go_wp2_with (go_at_call 38; ((with_reducible refine (CT _).out.mono ?_); rintro e w1 ⟨rfl, rfl⟩))
        exact bodyPost_ret (v := .tuple #[.int .i64 0, .int .i64 0, .bool false]) (by simp [results, Try.results51, go_sem]) rfl ⟨by rw [E.out.1, E.out.2], rfl⟩
      | some s2 =>
        have CT := fun w => Lib.hid (takV_of hc ▸ c_l05Takes c w)
        have CM := fun w => Lib.hid (makV_of hc ▸ c_l05Makes c w)
        have h2 := stT_bd hc
        have HR : Hid (rowS (l.take (k + 1)) = some (s.1 + s2.1, s.2.1 + s2.2.1, s.2.2 + s2.2.2)) := by rw [Hid, HN.out, HS.out]; simp [stAdd, hc]
        have d2 : decide (s2.1 < 0) = false := by simp; omega
        clear hc HN
        go_wp2_with (first
          | (go_at_call 38; ((with_reducible refine (CT _).out.mono ?_); rintro e w1 ⟨rfl, rfl⟩))
          | (go_at_call 39; ((with_reducible refine (CM _).out.mono ?_); rintro e w1 ⟨rfl, rfl⟩)))
        go_round
        case rel => exact ⟨k + 1, by omega, by go_num, _, HR.out, by go_num, by go_num⟩
        case measure => simp [intOf]; omega
    · obtain rfl : k = l.length := by omega
      have d1 : decide ((l.length : Int) < (l.length : Int)) = false := by simp
      rw [List.take_length] at hs
      have E := Lib.hid (rowV_some hs)
      clear hs
      go_wp2
      exact bodyPost_ret (v := .tuple #[.int .i64 s.1, .int .i64 s.2.1, .bool true]) (by simp [results, Try.results51, go_sem]) rfl ⟨by rw [E.out.1, E.out.2], rfl⟩
set_option maxHeartbeats 2000000 in
theorem c_l05Bad (cast : Int) (A : Option Addr) (cap : Nat) (L : List (List UInt8)) (hL : L.length ≤ 1048576) (hl : ∀ l ∈ L, l.length ≤ 1048576) (w : World) (hR : RdRow w A (strs L)) :
    Calls Try.prog 53 #[.int .i64 cast, .slice A L.length cap] w fun e w' => e = .returned (.int .i64 (badG cast 0 L)) ∧ w = w' := by
  have HR := Lib.hid hR
  have HL := Lib.hid hl
  clear hR hl
  go_enter Try.func53, Try.ntmps53
  go_wp2
  go_loop [5, 6] (fun x i => ∃ k : Nat, k ≤ L.length ∧ i = .int .i64 k ∧ ∃ y : Int, x = .int .i64 y ∧ Hid (badG cast 0 L = badG y k (L.drop k))) (fun _ i => L.length - (intOf i).toNat)
  case atStart => exact ⟨0, by omega, rfl, cast, rfl, rfl⟩
  case round =>
    obtain ⟨k, hk, rfl, y, rfl, hE⟩ := hrel
    by_cases hlt : k < L.length
    · have d1 : decide ((k : Int) < (L.length : Int)) = true := by simp; omega
      have k0 : (0 : Int) ≤ (k : Int) := by omega
      have k1 : (k : Int) < (L.length : Int) := by omega
      obtain ⟨ad, rfl, x0⟩ := HR.out k _ (strs_get hlt)
      have HD := drop_cons hlt
      have HLL := Lib.hid (HL.out (L.getD k []) (by rw [List.getD_eq_getElem?_getD, List.getElem?_eq_getElem hlt]; exact List.getElem_mem hlt))
      obtain ⟨l, hl⟩ : ∃ l, L.getD k [] = l := ⟨_, rfl⟩
      rw [hl] at x0 HD HLL
      have E0 := Lib.hid (hE.out.trans (by rw [HD]))
      clear hE HD hl
      cases hr : rowS l with
      | none =>
        have CR : ∀ w, Hid (Calls Try.prog 51 #[.string (str l)] w fun e w' => e = .returned (.tuple #[.int .i64 0, .int .i64 0, .bool false]) ∧ w = w') := fun w => by
          have := c_l05Row l HLL.out w
          rw [(rowV_none hr).1, (rowV_none hr).2] at this
          exact this
        have E := Lib.hid (E0.out.trans (badG_none hr))
        clear hr E0
        go_wp2_with (go_at_call 51; ((with_reducible refine (CR _).out.mono ?_); rintro e w1 ⟨rfl, rfl⟩))
        exact bodyPost_ret (v := .int .i64 (k : Int)) (by simp [results, Try.results53, go_sem]) rfl ⟨by rw [E.out], rfl⟩
      | some a =>
        have CR : ∀ w, Hid (Calls Try.prog 51 #[.string (str l)] w fun e w' => e = .returned (.tuple #[.int .i64 a.1, .int .i64 a.2.1, .bool true]) ∧ w = w') := fun w => by
          have := c_l05Row l HLL.out w
          rw [(rowV_some hr).1, (rowV_some hr).2] at this
          exact this
        by_cases q1 : y = 0
        · have E := Lib.hid (E0.out.trans (badG_yes hr (.inr (.inl q1))))
          have p1 : (y == 0) = true := by simp [q1]
          clear hr E0 q1
          go_wp2_with (go_at_call 51; ((with_reducible refine (CR _).out.mono ?_); rintro e w1 ⟨rfl, rfl⟩))
          exact bodyPost_ret (v := .int .i64 (k : Int)) (by simp [results, Try.results53, go_sem]) rfl ⟨by rw [E.out], rfl⟩
        · have p1 : (y == 0) = false := by simp [q1]
          by_cases q2 : a.1 = y
          · have p2 : (a.1 != y) = false := by simp [q2]
            by_cases q3 : 60 < a.2.1
            · have p3 : decide (60 < a.2.1) = true := by simp [q3]
              have E := Lib.hid (E0.out.trans (badG_yes hr (.inr (.inr (.inr q3)))))
              clear hr E0 q1 q2 q3
              go_wp2_with (go_at_call 51; ((with_reducible refine (CR _).out.mono ?_); rintro e w1 ⟨rfl, rfl⟩))
              exact bodyPost_ret (v := .int .i64 (k : Int)) (by simp [results, Try.results53, go_sem]) rfl ⟨by rw [E.out], rfl⟩
            · have p3 : decide (60 < a.2.1) = false := by simp; omega
              by_cases q4 : 30 ≤ k
              · have p4 : decide ((30 : Int) ≤ (k : Int)) = true := by simp; omega
                have E := Lib.hid (E0.out.trans (badG_yes hr (.inl q4)))
                clear hr E0 q1 q2 q3
                go_wp2_with (go_at_call 51; ((with_reducible refine (CR _).out.mono ?_); rintro e w1 ⟨rfl, rfl⟩))
                exact bodyPost_ret (v := .int .i64 (k : Int)) (by simp [results, Try.results53, go_sem]) rfl ⟨by rw [E.out], rfl⟩
              · have p4 : decide ((30 : Int) ≤ (k : Int)) = false := by simp; omega
                have E := Lib.hid (E0.out.trans (badG_no hr (by omega)))
                clear hr E0 q1 q2 q3
                go_wp2_with (go_at_call 51; ((with_reducible refine (CR _).out.mono ?_); rintro e w1 ⟨rfl, rfl⟩))
                go_round
                case rel => exact ⟨k + 1, by omega, by go_num, a.2.1, rfl, E⟩
                case measure => simp [intOf]; omega
          · have p2 : (a.1 != y) = true := by simp [q2]
            have E := Lib.hid (E0.out.trans (badG_yes hr (.inr (.inr (.inl q2)))))
            clear hr E0 q1 q2
            go_wp2_with (go_at_call 51; ((with_reducible refine (CR _).out.mono ?_); rintro e w1 ⟨rfl, rfl⟩))
            exact bodyPost_ret (v := .int .i64 (k : Int)) (by simp [results, Try.results53, go_sem]) rfl ⟨by rw [E.out], rfl⟩
    · obtain rfl : k = L.length := by omega
      have d1 : decide ((L.length : Int) < (L.length : Int)) = false := by simp
      have E : Hid (badG cast 0 L = -1) := by rw [Hid, hE.out, List.drop_length]; rfl
      go_wp2
      exact bodyPost_ret (v := .int .i64 (-1)) (by simp [results, Try.results53, go_sem]) rfl ⟨by rw [E.out], rfl⟩
theorem c_l05Cast (n : Int) (w : World) : Calls Try.prog 52 #[.int .i64 n] w fun e w' => e = .returned (.bool (inB n 1 60)) ∧ w = w' := by
  go_enter Try.func52, Try.ntmps52
  go_wp2_with (go_at_call 40; ((with_reducible refine (c_l00In _ _ _ _).mono ?_); rintro e w1 ⟨rfl, rfl⟩))
  go_ret
  exact ⟨rfl, rfl⟩
theorem flipw {P : Program} {f : FuncId} {args : Array Value} {w : World} {v : Value} (h : Calls P f args w fun e w' => e = .returned v ∧ w = w') : Calls P f args w fun e w' => e = .returned v ∧ w' = w :=
  h.mono fun _ _ h => ⟨h.1, h.2.symm⟩
/-- A fabric that can be read: its cast and its rows. -/
structure FabAt (w : World) (cast : Int) (A : Option Addr) (cap : Nat) (L : List (List UInt8)) : Prop where
  num : L.length ≤ 1048576
  len : ∀ l ∈ L, l.length ≤ 1048576
  row : RdRow w A (strs L)
  bd : -32768 ≤ cast ∧ cast ≤ 32767
theorem FabAt.below {w w1 : World} {cast : Int} {A : Option Addr} {cap : Nat} {L : List (List UInt8)} (h : FabAt w cast A cap L) (hb : Below w.heap.size w w1) : FabAt w1 cast A cap L := ⟨h.num, h.len, h.row.below hb, h.bd⟩
set_option maxHeartbeats 1000000 in
theorem c_l05Ok (g : Nat) (cast : Int) (A : Option Addr) (cap : Nat) (L : List (List UInt8)) (w : World) (hF : FabAt w cast A cap L) (hg : w.heap[g]? = some (.cells #[.int .i16 cast, .slice A L.length cap] 27 (0, 0))) :
    Calls Try.prog 24 #[.pointer (some ⟨g, 0, none⟩)] w fun e w' => e = .returned (.bool (fabOk cast L)) ∧ Below w.heap.size w w' := by
  have x0 : w.cell? ⟨g, 0, none⟩ = some (.int .i16 cast) := cell_of_row w g 0 _ _ _ hg
  have x1 : w.cell? ⟨g, 1, none⟩ = some (.slice A L.length cap) := cell_of_row w g 1 _ _ _ hg
  obtain ⟨b0, b1⟩ := hF.bd
  have wc : IntKind.i64.wrap cast = cast := IntWalk.i64_in _ (by omega)
  have CB := Lib.hid (fun w1 hr => c_l05Bad cast A cap L hF.num hF.len w1 hr)
  have HF := Lib.hid hF
  clear hF hg
  cases q : inB cast 1 60
  · have E : Hid (fabOk cast L = false) := by rw [Hid, fabOk, q]; rfl
    have CC := fun w => Lib.hid (q ▸ c_l05Cast cast w)
    clear q
    go_enter Try.func24, Try.ntmps24
    go_wp2
    go_quiet (first | (go_at_call 52; exact Calls.quiet_of_same (flipw (CC _).out)))
    go_wp2
    go_ret
    exact ⟨by rw [E.out]; rfl, below_drewN (Below.refl _ _) _⟩
  · have E : Hid (fabOk cast L = decide (badG cast 0 L < 0)) := by rw [Hid, fabOk, q]; rfl
    have CC := fun w => Lib.hid (q ▸ c_l05Cast cast w)
    clear q
    go_enter Try.func24, Try.ntmps24
    go_wp2
    go_quiet (first | (go_at_call 52; exact Calls.quiet_of_same (flipw (CC _).out)) | (go_at_call 53; exact Calls.quiet_of_same (flipw (CB.out _ HF.out.row))))
    go_wp2
    go_ret
    exact ⟨by rw [E.out]; rfl, below_drewN (Below.refl _ _) _⟩
end Go.Proofs.Ytepdgbgolopejaa
