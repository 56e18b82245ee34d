/- Numbers read from texts: the reference's function, the program's. -/
import Derived.Test.YtdcemmhfbfogdaaDoorNumPure
import Derived.Test.YtdcemmhfbfogdaaDoorSplitLib
import Derived.Test.YtdcemmhfbfogdaaDoorMovJoin
import Derived.Lib.ParseIntBTie
import Derived.Lib.SmallJoins
namespace Go.Proofs.YtdcemmhfbfogdaaDoor
open Go.RowKit
set_option linter.unusedVariables false
set_option linter.unusedSimpArgs false
set_option maxRecDepth 100000

theorem okNum_no {l : List UInt8} {k : Nat} {h : k < l.length} {c : UInt8} (hc : l[k] = c) (hd : isD c = false) : okNum l = false := by
  have : l.all isD = false := by
    rw [List.all_eq_false]
    exact ⟨l[k], List.getElem_mem h, by rw [hc, hd]; simp⟩
  rw [okNum, this, Bool.and_false]
theorem valD_take {l : List UInt8} {k : Nat} {h : k < l.length} {c : UInt8} (hc : l[k] = c) : valD (l.take (k + 1)) = 10 * valD (l.take k) + (c.toNat - 48) := by
  rw [List.take_add_one, List.getElem?_eq_getElem h, hc]
  exact valD_snoc _ _
theorem all_take {l : List UInt8} {k : Nat} {h : k < l.length} {c : UInt8} (hc : l[k] = c) (hd : isD c = true) (ha : (l.take k).all isD = true) : (l.take (k + 1)).all isD = true := by
  rw [List.take_add_one, List.getElem?_eq_getElem h, hc]
  simp [ha, hd]
theorem valD_bd {l : List UInt8} (h : l.all isD = true) (hl : l.length ≤ 9) : valD l < 1000000000 := by
  have h1 := valD_lt _ l rfl h
  have h5 : 10 ^ l.length ≤ 10 ^ 9 := Nat.pow_le_pow_right (by omega) hl
  omega
theorem okNum_yes {l : List UInt8} (hne : l ≠ []) (hl : l.length ≤ 9) (h0 : l.head? = some 48 → l.length = 1) (hd : l.all isD = true) : okNum l = true := by
  simp only [okNum, Bool.and_eq_true, Bool.not_eq_true', decide_eq_true_eq, hd, and_true]
  refine ⟨⟨by simpa using hne, hl⟩, ?_⟩
  rw [Bool.and_eq_false_iff]
  by_cases e : l.head? = some 48
  · right; have := h0 e; simp; omega
  · left; simp [e]
/-- What the reference reads of a text. -/
def numV (l : List UInt8) : Int := if okNum l = true then (valD l : Int) else 0
theorem numV_no {l : List UInt8} (h : okNum l = false) : numV l = 0 := by rw [numV, h]; rfl
theorem numV_yes {l : List UInt8} (h : okNum l = true) : numV l = (valD l : Int) := by rw [numV, h]; rfl
set_option maxHeartbeats 1000000 in
/-- The loop of the reference's function. -/
theorem c_l01Number (l : List UInt8) (hlen : l.length ≤ 1048576) (w : World) :
    Calls Tryd.prog 33 #[.string (str l)] w fun e w' => e = .returned (.tuple #[.int .i64 (numV l), .bool (okNum l)]) ∧ w = w' := by
  have hsz : (str l).size = l.length := str_size l
  by_cases hne : l = []
  · have ho : okNum l = false := by subst hne; rfl
    rw [ho, numV_no ho]
    have e0 : (str l).toList.isEmpty = true := by rw [str_toList, hne]; rfl
    clear hne
    go_enter Tryd.func33, Tryd.ntmps33
    go_wp2
    exact bodyPost_ret (v := .tuple #[.int .i64 0, .bool false]) (by simp [results, Tryd.results33, go_sem]) rfl ⟨rfl, rfl⟩
  · have hpos : 0 < l.length := List.length_pos_iff.2 hne
    have e0 : (str l).toList.isEmpty = false := by rw [str_toList]; simpa using hne
    by_cases hl : 9 < l.length
    · have d0 : decide ((9 : Int) < (l.length : Int)) = true := by simp; omega
      have ho : okNum l = false := by
        have : decide (l.length ≤ 9) = false := by simp; omega
        rw [okNum, this]; simp
      rw [ho, numV_no ho]
      go_enter Tryd.func33, Tryd.ntmps33
      go_wp2
      exact bodyPost_ret (v := .tuple #[.int .i64 0, .bool false]) (by simp [results, Tryd.results33, go_sem]) rfl ⟨rfl, rfl⟩
    · have d0 : decide ((9 : Int) < (l.length : Int)) = false := by simp; omega
      obtain ⟨c0, hc0⟩ : ∃ c, l[0]'hpos = c := ⟨_, rfl⟩
      have hg0 : ∀ h, (str l)[0]'h = c0 := fun h => (str_get l 0 h hpos).trans hc0
      have hh : l.head? = some c0 := by rw [List.head?_eq_getElem?, List.getElem?_eq_getElem hpos, hc0]
      by_cases hb : c0 = 48 ∧ 1 < l.length
      · obtain ⟨rfl, hl1⟩ := hb
        have d1 : decide ((1 : Int) < (l.length : Int)) = true := by simp; omega
        have ho : okNum l = false := by
          rw [okNum, hh]; simp [hl1]
        rw [ho, numV_no ho]
        clear hc0 hh
        go_enter Tryd.func33, Tryd.ntmps33
        go_wp2
        exact bodyPost_ret (v := .tuple #[.int .i64 0, .bool false]) (by simp [results, Tryd.results33, go_sem]) rfl ⟨rfl, rfl⟩
      · have H0 : Hid (l.head? = some 48 → l.length = 1) := fun e => by
          rw [hh] at e
          have : ¬ 1 < l.length := fun h => hb ⟨Option.some.inj e, h⟩
          omega
        have HNE : Hid (l ≠ []) := hne
        have LOOP : Hid (∀ (k : Nat), k ≤ l.length → (l.take k).all isD = true → valD (l.take k) < 1000000000) := fun k hk ha => by
          refine valD_bd ha ?_
          rw [List.length_take]; omega
        have hbb : Hid (c0 = 48 → ¬ 1 < l.length) := fun e h => hb ⟨e, h⟩
        clear hb hh hne
        by_cases h48 : (c0.toNat : Int) = 48
        · have d1 : decide ((1 : Int) < (l.length : Int)) = false := by
            have : c0 = 48 := UInt8.toNat_inj.1 (by show c0.toNat = 48; omega)
            have := hbb.out this
            simp; omega
          have p1 : ((c0.toNat : Int) == 48) = true := by simp [h48]
          clear h48 hc0
          go_enter Tryd.func33, Tryd.ntmps33
          go_wp2
          go_loop [4, 5] (fun x i => ∃ k : Nat, k ≤ l.length ∧ i = .int .i64 k ∧ (l.take k).all isD = true ∧ x = .int .i64 (valD (l.take k) : Int)) (fun _ i => l.length - (intOf i).toNat)
          case atStart => exact ⟨0, by omega, rfl, rfl, rfl⟩
          case round =>
            obtain ⟨k, hk, rfl, hall, rfl⟩ := hrel
            by_cases hlt : k < l.length
            · have d2 : decide ((k : Int) < (l.length : Int)) = true := by simp; omega
              obtain ⟨c, hcc⟩ : ∃ c, l[k]'hlt = c := ⟨_, rfl⟩
              have hgk : ∀ h, (str l)[k]'h = c := fun h => (str_get l k h hlt).trans hcc
              have hv := LOOP.out k hk hall
              have hclt : c.toNat < 256 := c.toNat_lt
              cases hd : isD c
              · have HO := Lib.hid (okNum_no hcc hd)
                by_cases h1 : (c.toNat : Int) < 48
                · have q1 : decide ((c.toNat : Int) < 48) = true := by simp; omega
                  clear hcc hd hg0
                  go_wp2
                  exact bodyPost_ret (v := .tuple #[.int .i64 0, .bool false]) (by simp [results, Tryd.results33, go_sem]) rfl ⟨by rw [HO.out, numV_no HO.out], rfl⟩
                · have q1 : decide ((c.toNat : Int) < 48) = false := by simp; omega
                  have q2 : decide ((57 : Int) < (c.toNat : Int)) = true := by
                    simp only [isD, Bool.and_eq_false_iff, decide_eq_false_iff_not] at hd
                    simp; omega
                  clear hcc hd hg0
                  go_wp2
                  exact bodyPost_ret (v := .tuple #[.int .i64 0, .bool false]) (by simp [results, Tryd.results33, go_sem]) rfl ⟨by rw [HO.out, numV_no HO.out], rfl⟩
              · have HV := Lib.hid (valD_take hcc)
                have HA := Lib.hid (all_take hcc hd hall)
                simp only [isD, Bool.and_eq_true, decide_eq_true_eq] at hd
                have q1 : decide ((c.toNat : Int) < 48) = false := by simp; omega
                have q2 : decide ((57 : Int) < (c.toNat : Int)) = false := by simp; omega
                have w1 : IntKind.u8.wrap ((c.toNat : Int) - 48) = (c.toNat : Int) - 48 := by rw [IntKind.wrap_u8]; omega
                have w2 : IntKind.i64.wrap ((c.toNat : Int) - 48) = (c.toNat : Int) - 48 := IntWalk.i64_in _ (by omega)
                have w3 : IntKind.i64.wrap (10 * (valD (l.take k) : Int)) = 10 * (valD (l.take k) : Int) := IntWalk.i64_in _ (by omega)
                have w4 : IntKind.i64.wrap (10 * (valD (l.take k) : Int) + ((c.toNat : Int) - 48)) = 10 * (valD (l.take k) : Int) + ((c.toNat : Int) - 48) := IntWalk.i64_in _ (by omega)
                clear hcc hg0
                go_wp2
                go_round
                case rel => exact ⟨k + 1, by omega, by go_num, HA.out, by rw [HV.out]; congr 1; omega⟩
                case measure => simp [intOf]; omega
            · obtain rfl : k = l.length := by omega
              have d2 : decide ((l.length : Int) < (l.length : Int)) = false := by simp
              rw [List.take_length] at hall
              have HT := Lib.hid (List.take_length (l := l))
              have HO := Lib.hid (okNum_yes HNE.out (by omega) H0.out hall)
              clear hall
              go_wp2
              exact bodyPost_ret (v := .tuple #[.int .i64 (valD (l.take l.length) : Int), .bool true]) (by simp [results, Tryd.results33, go_sem]) rfl ⟨by rw [HO.out, HT.out, numV_yes HO.out], rfl⟩
        · have p1 : ((c0.toNat : Int) == 48) = false := by simp [h48]
          clear h48 hc0
          go_enter Tryd.func33, Tryd.ntmps33
          go_wp2
          go_loop [4, 5] (fun x i => ∃ k : Nat, k ≤ l.length ∧ i = .int .i64 k ∧ (l.take k).all isD = true ∧ x = .int .i64 (valD (l.take k) : Int)) (fun _ i => l.length - (intOf i).toNat)
          case atStart => exact ⟨0, by omega, rfl, rfl, rfl⟩
          case round =>
            obtain ⟨k, hk, rfl, hall, rfl⟩ := hrel
            by_cases hlt : k < l.length
            · have d2 : decide ((k : Int) < (l.length : Int)) = true := by simp; omega
              obtain ⟨c, hcc⟩ : ∃ c, l[k]'hlt = c := ⟨_, rfl⟩
              have hgk : ∀ h, (str l)[k]'h = c := fun h => (str_get l k h hlt).trans hcc
              have hv := LOOP.out k hk hall
              have hclt : c.toNat < 256 := c.toNat_lt
              cases hd : isD c
              · have HO := Lib.hid (okNum_no hcc hd)
                by_cases h1 : (c.toNat : Int) < 48
                · have q1 : decide ((c.toNat : Int) < 48) = true := by simp; omega
                  clear hcc hd hg0
                  go_wp2
                  exact bodyPost_ret (v := .tuple #[.int .i64 0, .bool false]) (by simp [results, Tryd.results33, go_sem]) rfl ⟨by rw [HO.out, numV_no HO.out], rfl⟩
                · have q1 : decide ((c.toNat : Int) < 48) = false := by simp; omega
                  have q2 : decide ((57 : Int) < (c.toNat : Int)) = true := by
                    simp only [isD, Bool.and_eq_false_iff, decide_eq_false_iff_not] at hd
                    simp; omega
                  clear hcc hd hg0
                  go_wp2
                  exact bodyPost_ret (v := .tuple #[.int .i64 0, .bool false]) (by simp [results, Tryd.results33, go_sem]) rfl ⟨by rw [HO.out, numV_no HO.out], rfl⟩
              · have HV := Lib.hid (valD_take hcc)
                have HA := Lib.hid (all_take hcc hd hall)
                simp only [isD, Bool.and_eq_true, decide_eq_true_eq] at hd
                have q1 : decide ((c.toNat : Int) < 48) = false := by simp; omega
                have q2 : decide ((57 : Int) < (c.toNat : Int)) = false := by simp; omega
                have w1 : IntKind.u8.wrap ((c.toNat : Int) - 48) = (c.toNat : Int) - 48 := by rw [IntKind.wrap_u8]; omega
                have w2 : IntKind.i64.wrap ((c.toNat : Int) - 48) = (c.toNat : Int) - 48 := IntWalk.i64_in _ (by omega)
                have w3 : IntKind.i64.wrap (10 * (valD (l.take k) : Int)) = 10 * (valD (l.take k) : Int) := IntWalk.i64_in _ (by omega)
                have w4 : IntKind.i64.wrap (10 * (valD (l.take k) : Int) + ((c.toNat : Int) - 48)) = 10 * (valD (l.take k) : Int) + ((c.toNat : Int) - 48) := IntWalk.i64_in _ (by omega)
                clear hcc hg0
                go_wp2
                go_round
                case rel => exact ⟨k + 1, by omega, by go_num, HA.out, by rw [HV.out]; congr 1; omega⟩
                case measure => simp [intOf]; omega
            · obtain rfl : k = l.length := by omega
              have d2 : decide ((l.length : Int) < (l.length : Int)) = false := by simp
              rw [List.take_length] at hall
              have HT := Lib.hid (List.take_length (l := l))
              have HO := Lib.hid (okNum_yes HNE.out (by omega) H0.out hall)
              clear hall
              go_wp2
              exact bodyPost_ret (v := .tuple #[.int .i64 (valD (l.take l.length) : Int), .bool true]) (by simp [results, Tryd.results33, go_sem]) rfl ⟨by rw [HO.out, HT.out, numV_yes HO.out], rfl⟩

/-- The library's variables that the program leans on. -/
structure Laid (w : World) : Prop where
  tab : TabW w
  top : ∃ m, w.cell? ⟨0, 0, none⟩ = some (.int .i64 m)
  syn : ∃ ev, w.cell? ⟨1, 0, none⟩ = some ev ∧ (ev = .nilIface ∨ ∃ te pe, ev = .iface te pe)
  rng : ∃ ev, w.cell? ⟨2, 0, none⟩ = some ev ∧ (ev = .nilIface ∨ ∃ te pe, ev = .iface te pe)
theorem Laid.below {w w1 : World} (h : Laid w) (hb : Below w.heap.size w w1) : Laid w1 := by
  have hc : ∀ {a : Addr} {v : Value}, w.cell? a = some v → w1.cell? a = some v := fun {a v} hc => (hb.cell (World.block_lt_of_cell? w a hc)).trans hc
  obtain ⟨m, hm⟩ := h.top
  obtain ⟨e1, h1, h2⟩ := h.syn
  obtain ⟨e3, h3, h4⟩ := h.rng
  exact ⟨tab_below h.tab hb, ⟨m, hc hm⟩, ⟨e1, hc h1, h2⟩, ⟨e3, hc h3, h4⟩⟩
theorem sat_bd (l : List UInt8) : -32768 ≤ Lib.intSat 16 l ∧ Lib.intSat 16 l ≤ 32767 := by
  unfold Lib.intSat
  split <;> constructor <;> decide
theorem sat_bd64 (l : List UInt8) : -9223372036854775808 ≤ Lib.intSat 64 l ∧ Lib.intSat 64 l ≤ 9223372036854775807 := by
  unfold Lib.intSat
  split <;> constructor <;> decide
/-- strconv.ParseInt, as far as the program needs it: what it gives is the text's alone. -/
theorem c_parse16 (t : List UInt8) (ht : t.length ≤ 1048576) : ∃ (v : Int) (ok : Bool), (-32768 ≤ v ∧ v ≤ 32767) ∧ (∀ n, n < 32768 → t = Lib.decDigits n → ok = true ∧ v = (n : Int)) ∧ ∀ w, Laid w →
    Calls Tryd.prog 56 #[.string (str t), .int .i64 10, .int .i64 16] w fun e w' => ∃ x, e = .returned (.tuple #[.int .i64 v, x]) ∧ (ok = true → x = .nilIface) ∧ (ok = false → ∃ ty p, x = .iface ty p) ∧ Below w.heap.size w w' := by
  have hd : (str t).data.toList = t := by simp [str]
  cases hr : Lib.parseIntB 16 t with
  | ok v =>
    have hb := Lib.parseIntB_bounds hr
    refine ⟨v, true, ⟨by simpa using hb.1, by have := hb.2; simp at this; omega⟩, fun n hn e => ⟨rfl, ?_⟩, fun w hL => ?_⟩
    · rw [e, parse_dec 16 n (by decide) (by show n ≤ 65535; omega) (by show n < 32768; omega)] at hr
      injection hr with hr
      exact hr.symm
    · refine (Tryd.strconv_ParseInt_10_at16_ok (str t) (by rw [str_size]; omega) v (by rw [hd]; exact hr) w).mono fun e w' h => ?_
      obtain ⟨rfl, hw⟩ := h
      refine ⟨.nilIface, rfl, fun _ => rfl, fun h => (by cases h), ?_⟩
      rcases hw with rfl | ⟨t', rfl⟩
      · exact Below.refl _ _
      · exact Joins.below_bytesWorld _ _ _ _ (Nat.le_refl _)
  | range =>
    refine ⟨Lib.intSat 16 t, false, sat_bd _, fun n hn e => ?_, fun w hL => ?_⟩
    · rw [e, parse_dec 16 n (by decide) (by show n ≤ 65535; omega) (by show n < 32768; omega)] at hr
      cases hr
    · obtain ⟨ev, h1, h2⟩ := hL.rng
      refine (Tryd.strconv_ParseInt_10_at16_range (str t) (by rw [str_size]; omega) (by rw [hd]; exact hr) ev w h1 h2).mono fun e w' h => ?_
      obtain ⟨N, rfl, _, _, hb⟩ := h
      exact ⟨_, by rw [hd], fun h => (by cases h), fun _ => ⟨_, _, rfl⟩, hb⟩
  | _ =>
    refine ⟨0, false, ⟨by omega, by omega⟩, fun n hn e => ?_, fun w hL => ?_⟩
    · rw [e, parse_dec 16 n (by decide) (by show n ≤ 65535; omega) (by show n < 32768; omega)] at hr
      cases hr
    · obtain ⟨ev, h1, h2⟩ := hL.syn
      refine (Any.strconv_ParseInt_10_at16_syntax Tryd.laysC174 (str t) (by rw [str_size]; omega) (by rw [hd]; exact hr) ev w h1 h2).mono fun e w' h => ?_
      obtain ⟨N, rfl, _, _, hb⟩ := h
      exact ⟨_, rfl, fun h => (by cases h), fun _ => ⟨_, _, rfl⟩, hb⟩
set_option maxHeartbeats 1000000 in
theorem c_small16 (t : List UInt8) (ht : t.length ≤ 1048576) : ∃ (v : Int) (ok : Bool), (-32768 ≤ v ∧ v ≤ 32767) ∧ (∀ n, n < 32768 → t = Lib.decDigits n → ok = true ∧ v = (n : Int)) ∧ ∀ w, Laid w →
    Calls Tryd.prog 36 #[.string (str t), .int .i64 16] w fun e w' => e = .returned (.tuple #[.int .i64 v, .bool ok]) ∧ Below w.heap.size w w' := by
  obtain ⟨v, ok, h1, h2, h3⟩ := c_parse16 t ht
  refine ⟨v, ok, h1, h2, fun w hL => ?_⟩
  have CP := Lib.hid (h3 w hL)
  clear hL h3 h2
  cases ok
  · go_enter Tryd.func36, Tryd.ntmps36
    go_wp2_with (go_at_call 56; ((with_reducible refine CP.out.mono ?_); rintro e w1 ⟨x, rfl, hx, hy, hb⟩; obtain ⟨ty, p, rfl⟩ := hy rfl; clear hx hy))
    go_quiet (fail)
    go_wp2
    exact bodyPost_ret (v := .tuple #[.int .i64 v, .bool false]) (by simp [results, Tryd.results36, go_sem]) rfl ⟨rfl, hb.trans (below_drewN (Below.refl _ _) _)⟩
  · go_enter Tryd.func36, Tryd.ntmps36
    go_wp2_with (go_at_call 56; ((with_reducible refine CP.out.mono ?_); rintro e w1 ⟨x, rfl, hx, hy, hb⟩; obtain rfl := hx rfl; clear hx hy))
    go_quiet (fail)
    go_wp2
    exact bodyPost_ret (v := .tuple #[.int .i64 v, .bool true]) (by simp [results, Tryd.results36, go_sem]) rfl ⟨rfl, hb.trans (below_drewN (Below.refl _ _) _)⟩
/-- strconv.ParseInt, as far as the program needs it: what it gives is the text's alone. -/
theorem c_parse64 (t : List UInt8) (ht : t.length ≤ 1048576) : ∃ (v : Int) (ok : Bool), (-9223372036854775808 ≤ v ∧ v ≤ 9223372036854775807) ∧ (∀ n, n < 32768 → t = Lib.decDigits n → ok = true ∧ v = (n : Int)) ∧ ∀ w, Laid w →
    Calls Tryd.prog 56 #[.string (str t), .int .i64 10, .int .i64 64] w fun e w' => ∃ x, e = .returned (.tuple #[.int .i64 v, x]) ∧ (ok = true → x = .nilIface) ∧ (ok = false → ∃ ty p, x = .iface ty p) ∧ Below w.heap.size w w' := by
  have hd : (str t).data.toList = t := by simp [str]
  cases hr : Lib.parseIntB 64 t with
  | ok v =>
    have hb := Lib.parseIntB_bounds hr
    refine ⟨v, true, ⟨by simpa using hb.1, by have := hb.2; simp at this; omega⟩, fun n hn e => ⟨rfl, ?_⟩, fun w hL => ?_⟩
    · rw [e, parse_dec 64 n (by decide) (by show n ≤ 18446744073709551615; omega) (by show n < 9223372036854775808; omega)] at hr
      injection hr with hr
      exact hr.symm
    · refine (Tryd.strconv_ParseInt_10_at64_ok (str t) (by rw [str_size]; omega) v (by rw [hd]; exact hr) w).mono fun e w' h => ?_
      obtain ⟨rfl, hw⟩ := h
      refine ⟨.nilIface, rfl, fun _ => rfl, fun h => (by cases h), ?_⟩
      rcases hw with rfl | ⟨t', rfl⟩
      · exact Below.refl _ _
      · exact Joins.below_bytesWorld _ _ _ _ (Nat.le_refl _)
  | range =>
    refine ⟨Lib.intSat 64 t, false, sat_bd64 _, fun n hn e => ?_, fun w hL => ?_⟩
    · rw [e, parse_dec 64 n (by decide) (by show n ≤ 18446744073709551615; omega) (by show n < 9223372036854775808; omega)] at hr
      cases hr
    · obtain ⟨ev, h1, h2⟩ := hL.rng
      refine (Tryd.strconv_ParseInt_10_at64_range (str t) (by rw [str_size]; omega) (by rw [hd]; exact hr) ev w h1 h2).mono fun e w' h => ?_
      obtain ⟨N, rfl, _, _, hb⟩ := h
      exact ⟨_, by rw [hd], fun h => (by cases h), fun _ => ⟨_, _, rfl⟩, hb⟩
  | _ =>
    refine ⟨0, false, ⟨by omega, by omega⟩, fun n hn e => ?_, fun w hL => ?_⟩
    · rw [e, parse_dec 64 n (by decide) (by show n ≤ 18446744073709551615; omega) (by show n < 9223372036854775808; omega)] at hr
      cases hr
    · obtain ⟨ev, h1, h2⟩ := hL.syn
      refine (Any.strconv_ParseInt_10_at64_syntax Tryd.laysC174 (str t) (by rw [str_size]; omega) (by rw [hd]; exact hr) ev w h1 h2).mono fun e w' h => ?_
      obtain ⟨N, rfl, _, _, hb⟩ := h
      exact ⟨_, rfl, fun h => (by cases h), fun _ => ⟨_, _, rfl⟩, hb⟩
set_option maxHeartbeats 1000000 in
theorem c_small64 (t : List UInt8) (ht : t.length ≤ 1048576) : ∃ (v : Int) (ok : Bool), (-9223372036854775808 ≤ v ∧ v ≤ 9223372036854775807) ∧ (∀ n, n < 32768 → t = Lib.decDigits n → ok = true ∧ v = (n : Int)) ∧ ∀ w, Laid w →
    Calls Tryd.prog 36 #[.string (str t), .int .i64 64] w fun e w' => e = .returned (.tuple #[.int .i64 v, .bool ok]) ∧ Below w.heap.size w w' := by
  obtain ⟨v, ok, h1, h2, h3⟩ := c_parse64 t ht
  refine ⟨v, ok, h1, h2, fun w hL => ?_⟩
  have CP := Lib.hid (h3 w hL)
  clear hL h3 h2
  cases ok
  · go_enter Tryd.func36, Tryd.ntmps36
    go_wp2_with (go_at_call 56; ((with_reducible refine CP.out.mono ?_); rintro e w1 ⟨x, rfl, hx, hy, hb⟩; obtain ⟨ty, p, rfl⟩ := hy rfl; clear hx hy))
    go_quiet (fail)
    go_wp2
    exact bodyPost_ret (v := .tuple #[.int .i64 v, .bool false]) (by simp [results, Tryd.results36, go_sem]) rfl ⟨rfl, hb.trans (below_drewN (Below.refl _ _) _)⟩
  · go_enter Tryd.func36, Tryd.ntmps36
    go_wp2_with (go_at_call 56; ((with_reducible refine CP.out.mono ?_); rintro e w1 ⟨x, rfl, hx, hy, hb⟩; obtain rfl := hx rfl; clear hx hy))
    go_quiet (fail)
    go_wp2
    exact bodyPost_ret (v := .tuple #[.int .i64 v, .bool true]) (by simp [results, Tryd.results36, go_sem]) rfl ⟨rfl, hb.trans (below_drewN (Below.refl _ _) _)⟩
end Go.Proofs.YtdcemmhfbfogdaaDoor
