/- The program's CatchLoop. -/
import Derived.Test.YtepdgbgolopejaaLadDel
import Derived.Deep.RegionHeld3
import Derived.Deep.RegionWith
import Derived.Deep.RegionWith
import Derived.BigRegion
namespace Go.Proofs.Ytepdgbgolopejaa
open Go.RowKit
set_option linter.unusedVariables false
set_option linter.unusedSimpArgs false
set_option maxRecDepth 100000

theorem ladU_mem (L : List (List UInt8)) (a : Nat) : ∀ N, ∀ t ∈ ladU L a N, ∃ i, i < N ∧ t.1 = ((L.length - i : Nat) : Int)
  | 0, t, h => by cases h
  | N + 1, t, h => by
    rw [ladU, List.mem_append] at h
    rcases h with h | h
    · obtain ⟨i, hi, e⟩ := ladU_mem L a N t h
      exact ⟨i, by omega, e⟩
    · obtain ⟨k, _, rfl⟩ := List.mem_map.1 h
      exact ⟨N, by omega, rfl⟩
theorem ladU_add (L : List (List UInt8)) (a N : Nat) : ∀ m, ∃ R, ladU L a (N + m) = ladU L a N ++ R ∧ ∀ t ∈ R, ∃ i, N ≤ i ∧ i < N + m ∧ t.1 = ((L.length - i : Nat) : Int)
  | 0 => ⟨[], by simp, by simp⟩
  | m + 1 => by
    obtain ⟨R, h1, h2⟩ := ladU_add L a N m
    refine ⟨R ++ (dropD L a (N + m)).map fun (k : Nat) => (((L.length - (N + m) : Nat) : Int), (k : Int)), ?_, fun t ht => ?_⟩
    · rw [← Nat.add_assoc, ladU, h1, List.append_assoc]
    · rcases List.mem_append.1 ht with ht | ht
      · obtain ⟨i, a1, a2, a3⟩ := h2 t ht
        exact ⟨i, a1, by omega, a3⟩
      · obtain ⟨k, _, rfl⟩ := List.mem_map.1 ht
        exact ⟨N + m, by omega, by omega, rfl⟩
theorem ladU_part {L : List (List UInt8)} {a : Nat} {row : Int} (hL : L.length ≤ 30) (h0 : 0 ≤ row) (h1 : row ≤ L.length) : ∃ R, ladU L a (L.length + 1) = ladU L a (L.length - row.toNat) ++ R ∧ Parted (ladU L a (L.length - row.toNat)) R row := by
  obtain ⟨R, e, hR⟩ := ladU_add L a (L.length - row.toNat) (row.toNat + 1)
  rw [show L.length - row.toNat + (row.toNat + 1) = L.length + 1 by omega] at e
  refine ⟨R, e, ⟨fun t ht => ?_, fun t ht => ?_, fun t ht => ?_⟩⟩
  · obtain ⟨i, hi, e⟩ := ladU_mem L a _ t ht
    omega
  · obtain ⟨i, hi, hi2, e⟩ := hR t ht
    omega
  · rw [← e] at ht
    obtain ⟨i, hi, e⟩ := ladU_mem L a _ t ht
    omega
theorem c_lenStr (A : Option Addr) (n c : Nat) (w : World) : Calls Try.prog 43 #[.slice A n c] w fun u w' => u = .returned (.int .i64 (n : Int)) ∧ w = w' := by
  go_enter Try.func43, Try.ntmps43
  go_wp2
  go_ret
  exact ⟨rfl, rfl⟩
/-- What the region keeps. -/
abbrev CS3 (h : Nat) (cast row : Int) (A : Option Addr) (n cap : Nat) (w' : World) : Prop := w'.cell? ⟨h, 0, none⟩ = some (.int .i16 cast) ∧ w'.cell? ⟨h, 1, none⟩ = some (.slice A n cap) ∧ w'.cell? ⟨h + 1, 0, none⟩ = some (.int .i64 row)
theorem cs3_below {h n cap : Nat} {cast row : Int} {A : Option Addr} {w' w1 : World} (hb : Below w'.heap.size w' w1) (hc : CS3 h cast row A n cap w') : CS3 h cast row A n cap w1 :=
  ⟨(hb.cell (World.block_lt_of_cell? w' _ hc.1)).trans hc.1, (hb.cell (World.block_lt_of_cell? w' _ hc.2.1)).trans hc.2.1, (hb.cell (World.block_lt_of_cell? w' _ hc.2.2)).trans hc.2.2⟩
set_option maxHeartbeats 4000000 in
theorem c_iCatchLoop (cast at_ row : Int) (A : Option Addr) (cap : Nat) (L : List (List UInt8)) (w : World) (hF : FabAt w cast A cap L) :
    Calls Try.prog 17 #[.agg #[.int .i16 cast, .slice A L.length cap], .int .i64 at_, .int .i64 row] w (LpEnd (catchF cast L at_ row) w) := by
  have hb0 : Below w.heap.size w ((w.alloc (.cells #[.int .i16 cast, .slice A L.length cap] 27 (0, 0))).alloc (.cells #[.int .i64 row] 2 (0, 0))) := below_alloc (below_alloc (Below.refl _ _) _) _
  have hA := blk_alloc (heap_alloc_new w (.cells #[.int .i16 cast, .slice A L.length cap] 27 (0, 0))) (.cells #[.int .i64 row] 2 (0, 0))
  have hR := heap_alloc_new (w.alloc (.cells #[.int .i16 cast, .slice A L.length cap] 27 (0, 0))) (.cells #[.int .i64 row] 2 (0, 0))
  rw [World.size_alloc] at hR
  have CV := Lib.hid (c_ValidFabric cast A cap L _ (hF.below hb0))
  have HB0 := Lib.hid hb0
  have HF := Lib.hid (hF.below hb0)
  have HCS : Hid (CS3 w.heap.size cast row A L.length cap ((w.alloc (.cells #[.int .i16 cast, .slice A L.length cap] 27 (0, 0))).alloc (.cells #[.int .i64 row] 2 (0, 0)))) := ⟨blk_cell hA 0, blk_cell hA 1, blk_cell hR 0⟩
  have hnum := hF.num
  clear hb0 hA hR hF
  cases q1 : fabOk cast L
  · have E := Lib.hid (catch_bad (at_ := at_) (row := row) q1)
    rw [q1] at CV
    clear q1
    go_enter Try.func17, Try.ntmps17
    go_wp2_with (go_at_call 26; ((with_reducible refine CV.out.mono ?_); rintro e w1 ⟨rfl, hb⟩; have HB1 := Lib.hid (below_then HB0.out hb); clear hb))
    exact bodyPost_ret (v := .tuple #[.slice none 0 0, .int .i64 1]) (by simp [results, Try.results17, go_sem]) rfl (lpEnd_nil E.out HB1.out)
  · have hV := fabV_of q1
    have CL := Lib.hid (fun w' h => c_last cast A cap L w' h hV)
    rw [q1] at CV
    have hw60 := hV.wid L.length (Nat.le_refl _)
    have CI1 := fun w => Lib.hid (c_within at_ 0 ((widN cast L L.length : Int) - 1) w)
    have hn30 := hV.num
    cases q2 : inB at_ 0 ((widN cast L L.length : Int) - 1)
    · have E := Lib.hid (catch_out (at_ := at_) (row := row) q1 (fun h => by rw [q2] at h; exact Bool.false_ne_true h.1))
      rw [q2] at CI1
      clear q1 q2 hV
      generalize widN cast L L.length = wd at *
      have hwp : IntKind.i64.wrap ((wd : Int) - 1) = (wd : Int) - 1 := IntWalk.i64_in _ (by omega)
      go_enter Try.func17, Try.ntmps17
      go_wp2_with (first
        | (go_at_call 26; ((with_reducible refine CV.out.mono ?_); rintro e w1 ⟨rfl, hb⟩; have HB1 := Lib.hid (below_then HB0.out hb); have HC1 := Lib.hid (cs3_below hb HCS.out); have HF1 := Lib.hid (HF.out.below hb); have y0 := HC1.out.1; have y1 := HC1.out.2.1; have y2 := HC1.out.2.2; clear hb)))
      have HS0 : Hid (CS3 w.heap.size cast row A L.length cap w1.drew) := HC1.out
      have HFd : Hid (FabAt w1.drew cast A cap L) := Lib.hid (HF1.out.below (below_drew (Below.refl _ _)))
      have HBd := Lib.hid (below_drew HB1.out)
      clear HC1 HF1 HB1 HB0 HCS HF CV y0 y1 y2
      have y0 := HS0.out.1
      have y1 := HS0.out.2.1
      (first | go_region_with
        (first
          | (go_at_call 27; ((with_reducible refine (CL.out _ HFd.out).mono ?_); rintro e w2 ⟨rfl, hb2⟩; have HB2 := Lib.hid (below_then HBd.out hb2); have HS2 := Lib.hid (cs3_below hb2 HS0.out); clear hb2))
          | (go_at_call 32; ((with_reducible refine (CI1 _).out.mono ?_); rintro e w3 ⟨rfl, rfl⟩))) | fail)
      all_goals go_wp2
      all_goals exact bodyPost_ret (v := .tuple #[.slice none 0 0, .int .i64 2]) (by simp [results, Try.results17, go_sem]) rfl (lpEnd_nil E.out HB2.out)
    · rw [q2] at CI1
      have CI2 := fun w => Lib.hid (c_within row 0 (L.length : Int) w)
      cases q3 : inB row 0 L.length
      · have E := Lib.hid (catch_out (at_ := at_) (row := row) q1 (fun h => by rw [q3] at h; exact Bool.false_ne_true h.2))
        rw [q3] at CI2
        clear q1 q2 q3 hV
        generalize widN cast L L.length = wd at *
        have hwp : IntKind.i64.wrap ((wd : Int) - 1) = (wd : Int) - 1 := IntWalk.i64_in _ (by omega)
        go_enter Try.func17, Try.ntmps17
        go_wp2_with (first
          | (go_at_call 26; ((with_reducible refine CV.out.mono ?_); rintro e w1 ⟨rfl, hb⟩; have HB1 := Lib.hid (below_then HB0.out hb); have HC1 := Lib.hid (cs3_below hb HCS.out); have HF1 := Lib.hid (HF.out.below hb); have y0 := HC1.out.1; have y1 := HC1.out.2.1; have y2 := HC1.out.2.2; clear hb)))
        have HS0 : Hid (CS3 w.heap.size cast row A L.length cap w1.drew) := HC1.out
        have HFd : Hid (FabAt w1.drew cast A cap L) := Lib.hid (HF1.out.below (below_drew (Below.refl _ _)))
        have HBd := Lib.hid (below_drew HB1.out)
        clear HC1 HF1 HB1 HB0 HCS HF CV y0 y1 y2
        (first
          | go_region_held3 (fun w' => w'.cell? ⟨w.heap.size, 0, none⟩ = some (.int .i16 cast) ∧ w'.cell? ⟨w.heap.size, 1, none⟩ = some (.slice A L.length cap) ∧ w'.cell? ⟨w.heap.size + 1, 0, none⟩ = some (.int .i64 row))
              (first
                | with_reducible exact HS0.out
                | with_reducible exact HS2.out)
              (first
                | (go_at_call 27; ((with_reducible refine (CL.out _ HFd.out).mono ?_); rintro e w2 ⟨rfl, hb2⟩; have HB2 := Lib.hid (below_then HBd.out hb2); have HS2 := Lib.hid (cs3_below hb2 HS0.out); have HF2 := Lib.hid (HFd.out.below hb2); clear hb2))
                | (go_at_call 32; ((with_reducible refine (CI1 _).out.mono ?_); rintro e w3 ⟨rfl, rfl⟩))
                | (go_at_call 32; ((with_reducible refine (CI2 _).out.mono ?_); rintro e w3 ⟨rfl, rfl⟩))
                | (go_at_call 43; ((with_reducible refine (c_lenStr _ _ _ _).mono ?_); rintro e w3 ⟨rfl, rfl⟩)))
          | fail)
        go_wp2
        exact bodyPost_ret (v := .tuple #[.slice none 0 0, .int .i64 2]) (by simp [results, Try.results17, go_sem]) rfl (lpEnd_nil E.out HB2.out)
      · have E := Lib.hid (catch_in (row := row) q1 q2 q3)
        rw [q3] at CI2
        have h2 : 0 ≤ at_ ∧ at_ ≤ (widN cast L L.length : Int) - 1 := by simpa [inB] using q2
        have h3 : 0 ≤ row ∧ row ≤ (L.length : Int) := by simpa [inB] using q3
        obtain ⟨a, rfl⟩ := Int.eq_ofNat_of_zero_le h2.1
        have ha : a < widN cast L L.length := by omega
        obtain ⟨R, hY, hP⟩ := ladU_part (L := L) (a := a) hn30 h3.1 h3.2
        have hYl := ladU_len hV ha (L.length + 1) (Nat.le_refl _)
        have hYp : 0 < (ladU L a (L.length + 1)).length := by
          obtain ⟨R1, e1, _⟩ := ladU_add L a 1 L.length
          rw [Nat.add_comm] at e1
          rw [e1, List.length_append]
          have : (ladU L a 1).length = 1 := rfl
          omega
        have CD := Lib.hid (fun w' h => c_ladder a cast A cap L w' h hV ha)
        have HE : Hid (catchF cast L (a : Int) row = (ladU L a (L.length - row.toNat), 0)) := E.out
        rw [hY] at hYl hYp CD
        generalize ladU L a (L.length - row.toNat) = T at *
        have CDL := Lib.hid (fun g base c w' h hc => c_delLp g base c (w.heap.size + 1) T R row w' h (by omega) hP hc)
        rw [List.length_append] at CDL CD
        have HYP := Lib.hid (show 0 < T.length + R.length by rw [← List.length_append]; exact hYp)
        clear q1 q2 q3 hV h2 h3 ha hY hP hYl hYp E
        generalize widN cast L L.length = wd at *
        have hwp : IntKind.i64.wrap ((wd : Int) - 1) = (wd : Int) - 1 := IntWalk.i64_in _ (by omega)
        go_enter Try.func17, Try.ntmps17
        go_wp2_with (first
          | (go_at_call 26; ((with_reducible refine CV.out.mono ?_); rintro e w1 ⟨rfl, hb⟩; have HB1 := Lib.hid (below_then HB0.out hb); have HC1 := Lib.hid (cs3_below hb HCS.out); have HF1 := Lib.hid (HF.out.below hb); have y0 := HC1.out.1; have y1 := HC1.out.2.1; have y2 := HC1.out.2.2; clear hb)))
        have HS0 : Hid (CS3 w.heap.size cast row A L.length cap w1.drew) := HC1.out
        have HFd : Hid (FabAt w1.drew cast A cap L) := Lib.hid (HF1.out.below (below_drew (Below.refl _ _)))
        have HBd := Lib.hid (below_drew HB1.out)
        clear HC1 HF1 HB1 HB0 HCS HF CV y0 y1 y2
        (first
          | go_region_held3 (fun w' => w'.cell? ⟨w.heap.size, 0, none⟩ = some (.int .i16 cast) ∧ w'.cell? ⟨w.heap.size, 1, none⟩ = some (.slice A L.length cap) ∧ w'.cell? ⟨w.heap.size + 1, 0, none⟩ = some (.int .i64 row))
              (first
                | with_reducible exact HS0.out
                | with_reducible exact HS2.out)
              (first
                | (go_at_call 27; ((with_reducible refine (CL.out _ HFd.out).mono ?_); rintro e w2 ⟨rfl, hb2⟩; have HB2 := Lib.hid (below_then HBd.out hb2); have HS2 := Lib.hid (cs3_below hb2 HS0.out); have HF2 := Lib.hid (HFd.out.below hb2); clear hb2))
                | (go_at_call 32; ((with_reducible refine (CI1 _).out.mono ?_); rintro e w3 ⟨rfl, rfl⟩))
                | (go_at_call 32; ((with_reducible refine (CI2 _).out.mono ?_); rintro e w3 ⟨rfl, rfl⟩))
                | (go_at_call 43; ((with_reducible refine (c_lenStr _ _ _ _).mono ?_); rintro e w3 ⟨rfl, rfl⟩)))
          | fail)
        have z0 := HS2.out.1
        have z1 := HS2.out.2.1
        go_wp2_with (first
          | (go_at_call 29; ((refine (CD.out _ HF2.out).mono ?_); rintro e w4 ⟨v, rfl, hO, hb⟩; have HO4 := Lib.hid hO; obtain ⟨A4, c4, rfl, hA4⟩ := own_form hO; obtain ⟨g4, rfl, _⟩ := hA4 HYP.out; have HS4 := Lib.hid (cs3_below hb HS2.out); have HB4 := Lib.hid (below_then HB2.out hb); clear hb hO hA4))
          | (go_at_call 44; ((refine (CDL.out g4 w2.heap.size c4 _ HO4.out HS4.out.2.2).mono ?_); rintro e w5 ⟨v5, rfl, hO5, hb5⟩; have HO5 := Lib.hid (own_mono hO5 HB2.out.size); have HB5 := Lib.hid (HB4.out.trans (hb5.mono HB2.out.size)); clear hO5 hb5)))
        exact bodyPost_ret (v := .tuple #[v5, .int .i64 0]) (by simp [results, Try.results17, go_sem]) rfl ⟨v5, by rw [HE.out], by rw [HE.out]; exact HO5.out, HB5.out⟩
end Go.Proofs.Ytepdgbgolopejaa
