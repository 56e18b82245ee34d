/- How often a stitch comes: plain lists, and the reference's function. -/
import Derived.Test.YtdcemmhfbfogdaaFabLaw
namespace Go.Proofs.Ytdcemmhfbfogdaa
open Go.RowKit
set_option linter.unusedVariables false
set_option linter.unusedSimpArgs false
set_option maxRecDepth 100000

def cntL (c : UInt8) (L : List (List UInt8)) : Nat := L.flatten.count c
theorem cntL_take {c : UInt8} {L : List (List UInt8)} {k : Nat} (h : k < L.length) : cntL c (L.take (k + 1)) = cntL c (L.take k) + (L.getD k []).count c := by
  rw [List.take_add_one, List.getElem?_eq_getElem h]
  show (L.take k ++ [L[k]]).flatten.count c = _
  rw [List.flatten_append, List.count_append]
  simp [cntL, List.getD_eq_getElem?_getD, h]
theorem count_take {c : UInt8} {l : List UInt8} {j : Nat} (h : j < l.length) : (l.take (j + 1)).count c = (l.take j).count c + (if l[j] = c then 1 else 0) := by
  rw [List.take_add_one, List.getElem?_eq_getElem h]
  show (l.take j ++ [l[j]]).count c = _
  rw [List.count_append]
  simp [List.count_singleton, beq_iff_eq]
theorem cntL_le (c : UInt8) (L : List (List UInt8)) : cntL c L ≤ lensN L := by
  have h1 : cntL c L ≤ L.flatten.length := List.count_le_length
  have h2 : L.flatten.length = lensN L := by simp [lensN, List.length_flatten]
  omega
/-- CountStitch's answer. -/
def countF (cast : Int) (L : List (List UInt8)) (c : UInt8) : Int × Int := if fabOk cast L = true then (if (stT c).isSome = true then ((cntL c L : Int), 0) else (0, 5)) else (0, 1)
theorem takV_neg (c : UInt8) : decide (takV c < 0) = !(stT c).isSome := by
  cases h : stT c with
  | none => simp [takV, h]
  | some s =>
    have := stT_bd h
    simp [takV, h]
    omega
set_option maxHeartbeats 2000000 in
theorem c_sCountStitch (cast : Int) (A : Option Addr) (cap : Nat) (L : List (List UInt8)) (c : UInt8) (w : World) (hF : FabAt w cast A cap L) (hlen : L.length + lensN L ≤ 1048576) :
    Calls Try.prog 6 #[.agg #[.int .i16 cast, .slice A L.length cap], .int .u8 (c.toNat : Int)] w fun e w' => e = .returned (.tuple #[.int .i64 (countF cast L c).1, .int .i64 (countF cast L c).2]) ∧ Below w.heap.size w w' := by
  have hb0 : Below w.heap.size w (w.alloc (.cells #[.int .i16 cast, .slice A L.length cap] 29 (0, 0))) := below_alloc (Below.refl _ _) _
  have hA := heap_alloc_new w (.cells #[.int .i16 cast, .slice A L.length cap] 29 (0, 0))
  have CO := Lib.hid (c_l05Ok w.heap.size cast A cap L _ (hF.below hb0) hA)
  have CT := fun w => Lib.hid (c_l05Takes c w)
  have HT := Lib.hid (takV_neg c)
  have HB0 := Lib.hid hb0
  have HA := Lib.hid hA
  have HF := Lib.hid hF
  clear hb0 hA hF
  cases q1 : fabOk cast L
  · have E : Hid (countF cast L c = (0, 1)) := by rw [Hid, countF, q1]; rfl
    rw [q1] at CO
    go_enter Try.func6, Try.ntmps6
    go_wp2_with (go_at_call 17; ((with_reducible refine CO.out.mono ?_); rintro e w1 ⟨rfl, hb⟩; have HB1 := Lib.hid (below_then HB0.out hb); clear hb))
    exact bodyPost_ret (v := .tuple #[.int .i64 0, .int .i64 1]) (by simp [results, Try.results6, go_sem]) rfl ⟨by rw [E.out], HB1.out⟩
  · rw [q1] at CO
    cases q2 : (stT c).isSome
    · have E : Hid (countF cast L c = (0, 5)) := by rw [Hid, countF, q1, q2]; rfl
      rw [q2] at HT
      have ht := HT.out
      go_enter Try.func6, Try.ntmps6
      go_wp2_with (first
        | (go_at_call 17; ((with_reducible refine CO.out.mono ?_); rintro e w1 ⟨rfl, hb⟩; have HB1 := Lib.hid (below_then HB0.out hb); clear hb))
        | (go_at_call 18; ((with_reducible refine (CT _).out.mono ?_); rintro e w3 ⟨rfl, rfl⟩)))
      exact bodyPost_ret (v := .tuple #[.int .i64 0, .int .i64 5]) (by simp [results, Try.results6, go_sem]) rfl ⟨by rw [E.out], HB1.out⟩
    · have E : Hid (countF cast L c = ((cntL c L : Int), 0)) := by rw [Hid, countF, q1, q2]; rfl
      rw [q2] at HT
      have ht := HT.out
      have hcl := cntL_le c L
      go_enter Try.func6, Try.ntmps6
      go_wp2_with (first
        | (go_at_call 17; ((with_reducible refine CO.out.mono ?_); rintro e w1 ⟨rfl, hb⟩; have HB1 := Lib.hid (below_then HB0.out hb); have HA1 := Lib.hid (blk_below HA.out hb); clear hb))
        | (go_at_call 18; ((with_reducible refine (CT _).out.mono ?_); rintro e w3 ⟨rfl, rfl⟩)))
      have y1 : w1.cell? ⟨w.heap.size, 1, none⟩ = some (.slice A L.length cap) := blk_cell HA1.out 1
      have HR := Lib.hid (HF.out.row.below HB1.out)
      go_loop [6, 7] (fun m i => ∃ k : Nat, k ≤ L.length ∧ i = .int .i64 k ∧ m = .int .i64 (cntL c (L.take k) : Int)) (fun _ i => L.length - (intOf i).toNat)
      case atStart => exact ⟨0, by omega, rfl, rfl⟩
      case round =>
        obtain ⟨k, hk, rfl, rfl⟩ := hrel
        by_cases hlt : k < L.length
        · have d1 : decide ((k : Int) < (L.length : Int)) = true := by simp; omega
          have k0 : (0 : Int) ≤ (k : Int) := by omega
          have k1 : (k : Int) < (L.length : Int) := by omega
          obtain ⟨ad, rfl, x0⟩ := HR.out k _ (strs_get hlt)
          have HK := Lib.hid (cntL_take (c := c) hlt)
          have b1 := cntL_le c (L.take k)
          have b2 := lensN_le L k
          have b3 : (L.getD k []).length ≤ lensN L := lensN_mem (by rw [List.getD_eq_getElem?_getD, List.getElem?_eq_getElem hlt]; exact List.getElem_mem hlt)
          generalize L.getD k [] = l at *
          generalize cntL c (L.take k) = q at *
          have hsz : (str l).size = l.length := str_size l
          go_wp2
          go_loop [6, 8] (fun m i => ∃ j : Nat, j ≤ l.length ∧ i = .int .i64 j ∧ m = .int .i64 ((q + (l.take j).count c : Nat) : Int)) (fun _ i => l.length - (intOf i).toNat)
          case atStart => exact ⟨0, by omega, rfl, by simp⟩
          case round =>
            obtain ⟨j, hj, rfl, rfl⟩ := hrel
            by_cases hlt2 : j < l.length
            · have d2 : decide ((j : Int) < (l.length : Int)) = true := by simp; omega
              obtain ⟨a, haa⟩ : ∃ a, l[j]'hlt2 = a := ⟨_, rfl⟩
              have hgk : ∀ h, (str l)[j]'h = a := fun h => (str_get l j h hlt2).trans haa
              have hcj := count_take (c := c) hlt2
              rw [haa] at hcj
              have b4 : (l.take j).count c ≤ (l.take j).length := List.count_le_length
              have b5 : (l.take j).length ≤ j := by rw [List.length_take]; omega
              clear haa
              have u1 := u8_eq a c.toNat c rfl
              by_cases hac : a = c
              · have d3 : ((a.toNat : Int) == (c.toNat : Int)) = true := u1.trans (by simp [hac])
                rw [if_pos hac] at hcj
                have HCJ := Lib.hid hcj
                clear hcj u1
                go_wp2
                go_round
                case rel => exact ⟨j + 1, by omega, by go_num, by rw [HCJ.out]; go_num⟩
                case measure => simp [intOf]; omega
              · have d3 : ((a.toNat : Int) == (c.toNat : Int)) = false := u1.trans (by simp [hac])
                rw [if_neg hac, Nat.add_zero] at hcj
                have HCJ := Lib.hid hcj
                clear hcj u1
                go_wp2
                go_round
                case rel => exact ⟨j + 1, by omega, by go_num, by rw [HCJ.out, Nat.add_zero]⟩
                case measure => simp [intOf]; omega
            · obtain rfl : j = l.length := by omega
              have d2 : decide ((l.length : Int) < (l.length : Int)) = false := by simp
              go_wp2
              go_round
              case rel => exact ⟨k + 1, by omega, by go_num, by rw [HK.out, List.take_length]⟩
              case measure => simp [intOf]; omega
        · obtain rfl : k = L.length := by omega
          have d1 : decide ((L.length : Int) < (L.length : Int)) = false := by simp
          go_wp2
          exact bodyPost_ret (v := .tuple #[.int .i64 (cntL c (L.take L.length) : Int), .int .i64 0]) (by simp [results, Try.results6, go_sem]) rfl ⟨by rw [E.out, List.take_length], HB1.out⟩
end Go.Proofs.Ytdcemmhfbfogdaa
