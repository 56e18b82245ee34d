/- The program's grafting, repeating and adding of a row, at what the law on ladders asks. -/
import Derived.Test.YtepdgbgolopejaaLdImpl
import Derived.Test.YtepdgbgolopejaaShelf
import Derived.Test.YtepdgbgolopejaaDrawFab
import Derived.Test.YtepdgbgolopejaaAppKeep
import Derived.Deep.RegionHeld3
namespace Go.Proofs.Ytepdgbgolopejaa
open Go.RowKit
set_option linter.unusedVariables false
set_option linter.unusedSimpArgs false
set_option maxRecDepth 100000

/-- What the region keeps. -/
abbrev GS4 (h : Nat) (cast W : Int) (A : Option Addr) (n cap : Nat) (w' : World) : Prop := (w'.cell? ⟨h, 0, none⟩ = some (.int .i16 cast) ∧ w'.cell? ⟨h, 1, none⟩ = some (.slice A n cap)) ∧ w'.cell? ⟨h + 1, 0, none⟩ = some (.int .i16 W) ∧ w'.cell? ⟨h + 1, 1, none⟩ = some (.slice none 0 0)
theorem gs4_below {h n cap : Nat} {cast W : Int} {A : Option Addr} {w' w1 : World} (hb : Below w'.heap.size w' w1) (hc : GS4 h cast W A n cap w') : GS4 h cast W A n cap w1 :=
  ⟨⟨(hb.cell (World.block_lt_of_cell? w' _ hc.1.1)).trans hc.1.1, (hb.cell (World.block_lt_of_cell? w' _ hc.1.2)).trans hc.1.2⟩, (hb.cell (World.block_lt_of_cell? w' _ hc.2.1)).trans hc.2.1, (hb.cell (World.block_lt_of_cell? w' _ hc.2.2)).trans hc.2.2⟩
theorem fabAt_none {w : World} {W : Int} (h0 : 1 ≤ W) (h1 : W ≤ 60) : FabAt w W none 0 [] := ⟨by simp, by simp, fun j u hj => by simp [strs] at hj, by omega⟩
theorem c_isGauge (n : Int) (w : World) : Calls Try.prog 46 #[.int .i64 n] w fun e w' => e = .returned (.bool (inB n 1 100)) ∧ w = w' := by
  have CI := fun w => Lib.hid (c_within n 1 100 w)
  go_enter Try.func46, Try.ntmps46
  go_wp2_with (go_at_call 32; ((with_reducible refine (CI _).out.mono ?_); rintro e w1 ⟨rfl, rfl⟩))
  exact bodyPost_ret (v := .bool (inB n 1 100)) (by simp [results, Try.results46, go_sem]) rfl ⟨rfl, rfl⟩
set_option maxHeartbeats 4000000 in
theorem c_iGraftLength (cast : Int) (A : Option Addr) (cap : Nat) (L : List (List UInt8)) (w : World) (hF : FabAt w cast A cap L) (hok : fabOk cast L = true) (hW : 0 < widN cast L L.length) :
    Calls Try.prog 19 #[.agg #[.int .i16 cast, .slice A L.length cap], .agg #[.int .i16 (widN cast L L.length : Int), .slice none 0 0], .int .i64 2] w fun e w' => e = .returned (.tuple #[.int .i64 (6 * (widN cast L L.length : Int)), .int .i64 0]) ∧ Below w.heap.size w w' := by
  have hV := fabV_of hok
  have hw60 := hV.wid L.length (Nat.le_refl _)
  obtain ⟨W, hWW⟩ : ∃ W : Nat, widN cast L L.length = W := ⟨_, rfl⟩
  have s1 := heap_alloc_new w (.cells #[.int .i16 cast, .slice A L.length cap] 27 (0, 0))
  have s2 := heap_alloc_new (w.alloc (.cells #[.int .i16 cast, .slice A L.length cap] 27 (0, 0))) (.cells #[.int .i16 (W : Int), .slice none 0 0] 27 (0, 0))
  rw [World.size_alloc] at s2
  have hb2 : Below w.heap.size w ((w.alloc (.cells #[.int .i16 cast, .slice A L.length cap] 27 (0, 0))).alloc (.cells #[.int .i16 (W : Int), .slice none 0 0] 27 (0, 0))) := below_alloc (below_alloc (Below.refl _ _) _) _
  have HS : Hid (GS4 w.heap.size cast (W : Int) A L.length cap ((w.alloc (.cells #[.int .i16 cast, .slice A L.length cap] 27 (0, 0))).alloc (.cells #[.int .i16 (W : Int), .slice none 0 0] 27 (0, 0)))) := ⟨⟨blk_cell (blk_alloc s1 _) 0, blk_cell (blk_alloc s1 _) 1⟩, blk_cell s2 0, blk_cell s2 1⟩
  have HF := Lib.hid (hF.below hb2)
  have HB := Lib.hid hb2
  have h60 : W ≤ 60 := by omega
  have hW0 : 0 < W := by omega
  have hokB : fabOk (W : Int) [] = true := by
    rw [fabOk, Bool.and_eq_true, decide_eq_true_eq]
    exact ⟨by simp [inB]; omega, by simp [badG]⟩
  have CVA := Lib.hid (fun w' h => hok ▸ c_ValidFabric cast A cap L w' h)
  have CVB : Hid (∀ w', Calls Try.prog 26 #[.agg #[.int .i16 (W : Int), .slice none 0 0]] w' fun e w1 => e = .returned (.bool true) ∧ Below w'.heap.size w' w1) := fun w' => hokB ▸ c_ValidFabric (W : Int) none 0 [] w' (fabAt_none (by omega) (by omega))
  have CLA := Lib.hid (fun w' h => hWW ▸ c_last cast A cap L w' h hV)
  have CLB : Hid (∀ w', Calls Try.prog 27 #[.agg #[.int .i16 (W : Int), .slice none 0 0]] w' fun e w1 => e = .returned (.int .i64 (W : Int)) ∧ Below w'.heap.size w' w1) := fun w' => by
    have := c_last (W : Int) none 0 [] w' (fabAt_none (by omega) (by omega)) (fabV_of hokB)
    have e : (widN (W : Int) [] ([] : List (List UInt8)).length : Int) = (W : Int) := by simp [widN]
    rw [e] at this
    exact this
  have CG := fun w => Lib.hid (show Calls Try.prog 46 #[.int .i64 2] w fun e w' => e = .returned (.bool true) ∧ w = w' from c_isGauge 2 w)
  rw [hWW]
  clear hF hok hV s1 s2 hb2 hokB hW hw60 hWW
  have d0 : ((W : Int) == 0) = false := by simp; omega
  have w6 : IntKind.i64.wrap (6 * (W : Int)) = 6 * (W : Int) := IntWalk.i64_in _ (by omega)
  have y00 := HS.out.1.1
  have y01 := HS.out.1.2
  have y10 := HS.out.2.1
  have y11 := HS.out.2.2
  have st1 := Lib.hid True.intro
  go_enter Try.func19, Try.ntmps19
  go_wp2_with (first
    | (go_at_call 26; clear st1; ((with_reducible refine (CVA.out _ HF.out).mono ?_); rintro e w1 ⟨rfl, hb⟩; replace HS := Lib.hid (gs4_below hb HS.out); replace HF := Lib.hid (HF.out.below hb); replace HB := Lib.hid (below_then HB.out hb); have y00 := HS.out.1.1; have y01 := HS.out.1.2; have y10 := HS.out.2.1; have y11 := HS.out.2.2; clear hb))
    | (go_at_call 26; ((with_reducible refine (CVB.out _).mono ?_); rintro e w2 ⟨rfl, hb⟩; replace HS := Lib.hid (gs4_below hb HS.out); replace HF := Lib.hid (HF.out.below hb); replace HB := Lib.hid (below_then HB.out hb); have y00 := HS.out.1.1; have y01 := HS.out.1.2; have y10 := HS.out.2.1; have y11 := HS.out.2.2; clear hb))
    | (go_at_call 46; ((with_reducible refine (CG _).out.mono ?_); rintro e w3 ⟨rfl, rfl⟩)))
  have HSd : Hid (GS4 w.heap.size cast (W : Int) A L.length cap w2.drew) := HS.out
  have HFd := Lib.hid (HF.out.below (below_drew (Below.refl _ _)))
  have HBd := Lib.hid (below_drew HB.out)
  clear HS HF HB y00 y01 y10 y11 CVA CVB
  have st2 := Lib.hid True.intro
  (first
    | go_region_held3 (fun w' => (w'.cell? ⟨w.heap.size, 0, none⟩ = some (.int .i16 cast) ∧ w'.cell? ⟨w.heap.size, 1, none⟩ = some (.slice A L.length cap)) ∧ w'.cell? ⟨w.heap.size + 1, 0, none⟩ = some (.int .i16 (W : Int)) ∧ w'.cell? ⟨w.heap.size + 1, 1, none⟩ = some (.slice none 0 0))
        (with_reducible exact HSd.out)
        (first
          | (go_at_call 27; ((with_reducible refine (CLA.out _ HFd.out).mono ?_); rintro e w5 ⟨rfl, hb⟩; replace HSd := Lib.hid (gs4_below hb HSd.out); replace HFd := Lib.hid (HFd.out.below hb); replace HBd := Lib.hid (below_then HBd.out hb); clear hb))
          | (go_at_call 27; ((with_reducible refine (CLB.out _).mono ?_); rintro e w5 ⟨rfl, hb⟩; replace HSd := Lib.hid (gs4_below hb HSd.out); replace HFd := Lib.hid (HFd.out.below hb); replace HBd := Lib.hid (below_then HBd.out hb); clear hb)))
    | fail)
  have y00 := HSd.out.1.1
  have y01 := HSd.out.1.2
  go_wp2_with (first
    | (go_at_call 27; ((with_reducible refine (CLA.out _ HFd.out).mono ?_); rintro e w6 ⟨rfl, hb⟩; have HB6 := Lib.hid (below_then HBd.out hb); clear hb)))
  exact bodyPost_ret (v := .tuple #[.int .i64 (6 * (W : Int)), .int .i64 0]) (by simp [results, Try.results19, go_sem]) rfl ⟨rfl, HB6.out⟩
/-- What the region keeps. -/
abbrev RS3 (h : Nat) (cast : Int) (A : Option Addr) (n cap G : Nat) (w' : World) : Prop := (w'.cell? ⟨h, 0, none⟩ = some (.int .i16 cast) ∧ w'.cell? ⟨h, 1, none⟩ = some (.slice A n cap)) ∧ w'.cell? ⟨G, 0, none⟩ = some (.int .i64 1)
theorem rs3_below {h n cap G : Nat} {cast : Int} {A : Option Addr} {w' w1 : World} (hb : Below w'.heap.size w' w1) (hc : RS3 h cast A n cap G w') : RS3 h cast A n cap G w1 :=
  ⟨⟨(hb.cell (World.block_lt_of_cell? w' _ hc.1.1)).trans hc.1.1, (hb.cell (World.block_lt_of_cell? w' _ hc.1.2)).trans hc.1.2⟩, (hb.cell (World.block_lt_of_cell? w' _ hc.2)).trans hc.2⟩
theorem rep_k : ∀ W, Lib.repeatL [107] W = List.replicate W 107
  | 0 => rfl
  | W + 1 => by rw [Lib.repeatL, rep_k W]; rfl
theorem rowS_rep : ∀ W, rowS (List.replicate W 107) = some ((W : Int), (W : Int), (3 * W : Int))
  | 0 => rfl
  | W + 1 => by
    rw [List.replicate_succ', rowS_snoc, rowS_rep W]
    simp only [stAdd, show stT 107 = some (1, 1, 3) from rfl]
    simp only [Option.some.injEq, Prod.mk.injEq]
    omega
set_option maxHeartbeats 4000000 in
theorem c_iRepeatRow (cast : Int) (A : Option Addr) (cap : Nat) (L : List (List UInt8)) (w : World) (hF : FabAt w cast A cap L) (hok : fabOk cast L = true) :
    Calls Try.prog 20 #[.agg #[.int .i16 cast, .slice A L.length cap], .string ⟨#[107]⟩] w fun e w' => e = .returned (.tuple #[.string (str (List.replicate (widN cast L L.length) 107)), .int .i64 0]) ∧ Below w.heap.size w w' := by
  have hV := fabV_of hok
  have hw60 := hV.wid L.length (Nat.le_refl _)
  have hb0 : Below w.heap.size w (w.alloc (.cells #[.int .i16 cast, .slice A L.length cap] 27 (0, 0))) := below_alloc (Below.refl _ _) _
  have HA := Lib.hid (heap_alloc_new w (.cells #[.int .i16 cast, .slice A L.length cap] 27 (0, 0)))
  have HF := Lib.hid (hF.below hb0)
  have HB := Lib.hid hb0
  have CR : Hid (∀ w', Calls Try.prog 47 #[.string ⟨#[107]⟩] w' fun e w1 => e = .returned (.tuple #[.agg #[.int .i64 1, .int .i64 1, .int .i64 3], .bool true]) ∧ Below w'.heap.size w' w1) := fun w' => by
    have := c_rowOf [107] (by decide) w'
    rw [show rowV [107] = (1, 1, 3) by decide, show (rowS [107]).isSome = true by decide] at this
    exact this
  have CV := Lib.hid (fun w' h => hok ▸ c_ValidFabric cast A cap L w' h)
  have CL := Lib.hid (fun w' h => c_last cast A cap L w' h hV)
  have CP : Hid (∀ w', Calls Try.prog 48 #[.string ⟨#[107]⟩, .int .i64 (widN cast L L.length : Int)] w' fun e w1 => e = .returned (.string (str (List.replicate (widN cast L L.length) 107))) ∧ Below w'.heap.size w' w1) := fun w' => by
    have := Try.strings_Repeat ⟨#[107]⟩ (widN cast L L.length) w' (by omega) (by show 1 * _ ≤ _; omega)
    rw [show (⟨#[107]⟩ : ByteArray).data.toList = [107] from rfl, rep_k] at this
    exact this
  clear hF hok hV hb0
  generalize widN cast L L.length = W at *
  have tm : (W : Int).tmod 1 = 0 := by simp
  have td : (W : Int).tdiv 1 = (W : Int) := by simp
  have wW : IntKind.i64.wrap (W : Int) = (W : Int) := IntWalk.i64_in _ (by omega)
  go_enter Try.func20, Try.ntmps20
  go_wp2_with (first
    | (go_at_call 47; ((with_reducible refine (CR.out _).mono ?_); rintro e w1 ⟨rfl, hb⟩; have HA1 := Lib.hid (blk_below HA.out hb); have HF1 := Lib.hid (HF.out.below hb); have HB1 := Lib.hid (below_then HB.out hb); have y0 : w1.cell? ⟨w.heap.size, 0, none⟩ = some (.int .i16 cast) := blk_cell HA1.out 0; have y1 : w1.cell? ⟨w.heap.size, 1, none⟩ = some (.slice A L.length cap) := blk_cell HA1.out 1; have hz1 := blk_lt HA1.out; clear hb))
    | (go_at_call 26; have hb2 : Below w1.heap.size w1 (w1.alloc (.cells #[.int .i64 1, .int .i64 1, .int .i64 3] 71 (0, 0))) := below_alloc (Below.refl _ _) _; have HG2 := Lib.hid (heap_alloc_new w1 (.cells #[.int .i64 1, .int .i64 1, .int .i64 3] 71 (0, 0))); have HA2 := Lib.hid (blk_below HA1.out hb2); have HF2 := Lib.hid (HF1.out.below hb2); have HB2 := Lib.hid (below_then HB1.out hb2); clear hb2; ((with_reducible refine (CV.out _ HF2.out).mono ?_); rintro e w3 ⟨rfl, hb⟩; have HG3 := Lib.hid (blk_below HG2.out hb); have HA3 := Lib.hid (blk_below HA2.out hb); have HF3 := Lib.hid (HF2.out.below hb); have HB3 := Lib.hid (below_then HB2.out hb); clear hb)))
  have HSd : Hid (RS3 w.heap.size cast A L.length cap w1.heap.size w3.drew) := ⟨⟨blk_cell HA3.out 0, blk_cell HA3.out 1⟩, blk_cell HG3.out 0⟩
  have HFd := Lib.hid (HF3.out.below (below_drew (Below.refl _ _)))
  have HBd := Lib.hid (below_drew HB3.out)
  clear HG2 HA2 HF2 HB2 HG3 HA3 HF3 HB3 HA HF HB HA1 HF1 HB1 y0 y1 hz1
  generalize w1.heap.size = G at *
  (first
    | go_region_held3 (fun w' => (w'.cell? ⟨w.heap.size, 0, none⟩ = some (.int .i16 cast) ∧ w'.cell? ⟨w.heap.size, 1, none⟩ = some (.slice A L.length cap)) ∧ w'.cell? ⟨G, 0, none⟩ = some (.int .i64 1))
        (with_reducible exact HSd.out)
        (first
          | (go_at_call 27; ((with_reducible refine (CL.out _ HFd.out).mono ?_); rintro e w5 ⟨rfl, hb⟩; replace HSd := Lib.hid (rs3_below hb HSd.out); replace HFd := Lib.hid (HFd.out.below hb); replace HBd := Lib.hid (below_then HBd.out hb); clear hb)))
    | fail)
  go_wp2
  replace HFd := Lib.hid (HFd.out.below (below_drew (Below.refl _ _)))
  replace HBd := Lib.hid (below_drew HBd.out)
  have HSe : Hid (RS3 w.heap.size cast A L.length cap G w5.drew) := HSd.out
  clear HSd
  (first
    | go_region_held3 (fun w' => (w'.cell? ⟨w.heap.size, 0, none⟩ = some (.int .i16 cast) ∧ w'.cell? ⟨w.heap.size, 1, none⟩ = some (.slice A L.length cap)) ∧ w'.cell? ⟨G, 0, none⟩ = some (.int .i64 1))
        (with_reducible exact HSe.out)
        (first
          | (go_at_call 27; ((with_reducible refine (CL.out _ HFd.out).mono ?_); rintro e w6 ⟨rfl, hb⟩; replace HSe := Lib.hid (rs3_below hb HSe.out); replace HFd := Lib.hid (HFd.out.below hb); replace HBd := Lib.hid (below_then HBd.out hb); clear hb))
          | (go_at_call 48; ((with_reducible refine (CP.out _).mono ?_); rintro e w6 ⟨rfl, hb⟩; replace HSe := Lib.hid (rs3_below hb HSe.out); replace HFd := Lib.hid (HFd.out.below hb); replace HBd := Lib.hid (below_then HBd.out hb); clear hb)))
    | fail)
  go_wp2
  exact bodyPost_ret (v := .tuple #[.string (str (List.replicate W 107)), .int .i64 0]) (by simp [results, Try.results20, go_sem]) rfl ⟨rfl, HBd.out⟩
end Go.Proofs.Ytepdgbgolopejaa
