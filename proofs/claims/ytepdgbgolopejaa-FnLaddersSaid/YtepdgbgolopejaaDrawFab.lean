/- Fabrics drawn from bytes. -/
import Derived.Test.YtepdgbgolopejaaDrawn
import Derived.Test.YtepdgbgolopejaaDrawW
import Derived.Test.YtepdgbgolopejaaLadWid
import Derived.Test.YtepdgbgolopejaaEvOps
import Derived.Deep.DeepCutAuto
import Derived.BigQuiet
import Derived.Deep.QuietTactic
namespace Go.Proofs.Ytepdgbgolopejaa
open Go.RowKit
set_option linter.unusedVariables false
set_option linter.unusedSimpArgs false
set_option maxRecDepth 100000

/-- A letter that is a stitch. -/
structure Lett (c : UInt8) : Prop where
  is : c = 107 ∨ c = 100 ∨ c = 105 ∨ c = 111 ∨ c = 98
theorem Lett.st {c : UInt8} (h : Lett c) : ∃ s, stT c = some s := by rcases h.is with rfl | rfl | rfl | rfl | rfl <;> exact ⟨_, rfl⟩
theorem Lett.bd {c : UInt8} (h : Lett c) : tkN c ≤ 2 ∧ mkN c ≤ tkN c + 1 ∧ 1 ≤ tkN c + mkN c := by rcases h.is with rfl | rfl | rfl | rfl | rfl <;> decide
theorem Lett.tv {c : UInt8} (h : Lett c) : takV c = (tkN c : Int) ∧ makV c = (mkN c : Int) := by
  obtain ⟨s, hs⟩ := h.st
  have := stT_N hs
  exact ⟨this.1, this.2.1⟩
theorem rowS_lett {l : List UInt8} {a : Int × Int × Int} {c : UInt8} (h : rowS l = some a) (hc : Lett c) : ∃ b, rowS (l ++ [c]) = some b := by
  obtain ⟨s, hs⟩ := hc.st
  rw [rowS_snoc, h]
  simp [stAdd, hs]
theorem tkS_snoc (l : List UInt8) (c : UInt8) : tkS (l ++ [c]) = tkS l + tkN c := by simp [tkS]
theorem mkS_snoc (l : List UInt8) (c : UInt8) : mkS (l ++ [c]) = mkS l + mkN c := by simp [mkS]
theorem bytesV_one (c : UInt8) : bytesV [c] = [.int .u8 (c.toNat : Int)] := rfl
theorem lett_tab : ∀ (i : Nat) (h : i < (⟨#[107, 107, 107, 107, 100, 105, 111, 98]⟩ : ByteArray).size), Lett ((⟨#[107, 107, 107, 107, 100, 105, 111, 98]⟩ : ByteArray)[i]'h) := by
  intro i h
  have h8 : i < 8 := h
  match i, h8 with
  | 0, _ => exact ⟨.inl rfl⟩
  | 1, _ => exact ⟨.inl rfl⟩
  | 2, _ => exact ⟨.inl rfl⟩
  | 3, _ => exact ⟨.inl rfl⟩
  | 4, _ => exact ⟨.inr (.inl rfl)⟩
  | 5, _ => exact ⟨.inr (.inr (.inl rfl))⟩
  | 6, _ => exact ⟨.inr (.inr (.inr (.inl rfl)))⟩
  | 7, _ => exact ⟨.inr (.inr (.inr (.inr rfl)))⟩
set_option maxHeartbeats 4000000 in
theorem c_l05Knit (g N0 W0 : Nat) (A : Option Addr) (cap : Nat) (xs : List Int) (w : World) (h : Src g N0 A cap xs w) (hA : ∀ ad, A = some ad → xs ≠ [] → ad.block < w.heap.size) (hN0 : N0 ≤ 800000) (hW : W0 ≤ 60) :
    Calls Try.prog 50 #[.pointer (some ⟨g, 0, none⟩), .int .i64 (W0 : Int)] w fun e w' => ∃ l : List UInt8, e = .returned (.string (str l)) ∧ (∃ a, rowS l = some a) ∧ tkS l = W0 ∧ mkS l ≤ W0 + 10 ∧ Src g (N0 + 130) A cap xs w' ∧ Drawn g w.heap.size w w' := by
  have hg : g < w.heap.size := by obtain ⟨_, _, _, _, hb⟩ := h.blk; exact blk_lt hb
  have hb0 : Below w.heap.size w (w.alloc (.cells #[] 5 (0, 0))) := below_alloc (Below.refl _ _) _
  have HS := Lib.hid (h.below hb0)
  have HB : Hid (Drawn g w.heap.size w (w.alloc (.cells #[] 5 (0, 0)))) := ⟨hb0.os, hb0.tape, hb0.output, hb0.size, fun i hi _ => hb0.block i hi⟩
  have HO := Lib.hid (own_empty (base := w.heap.size) (e := 5) (size := 1) (heap_alloc_new w (.cells #[] 5 (0, 0))) (Nat.le_refl _))
  have HA := Lib.hid hA
  clear h hA hb0
  go_enter Try.func50, Try.ntmps50
  go_wp2
  generalize hwa : w.alloc (.cells #[] 5) = wa at *
  clear hwa
  go_loopw [1, 5, 6] (fun wd v md wr => ∃ (n m N : Nat) (l : List UInt8), wd = .int .i64 (n : Int) ∧ md = .int .i64 (m : Int) ∧ mkS l = m ∧ tkS l + n = W0 ∧ m + n ≤ W0 + min m 10 ∧ l.length ≤ tkS l + mkS l ∧ N ≤ N0 + l.length ∧ Hid (∃ a, rowS l = some a) ∧ Hid (Src g N A cap xs wr) ∧ Hid (wr.ownsRow w.heap.size 5 1 v l.length (bytesV l)) ∧ Hid (Drawn g w.heap.size w wr)) (fun wd _ md _ => (intOf wd).toNat + (10 - (intOf md).toNat))
  case atStart => exact ⟨W0, 0, N0, [], rfl, rfl, rfl, by simp [tkS], by omega, by simp, by simp, ⟨_, rfl⟩, HS, HO, HB⟩
  case round =>
    clear HS HO HB
    obtain ⟨n, m, N, l, rfl, rfl, hm, ht, hmn, hll, hN, HR, HS, HO, HB⟩ := hrel
    by_cases hn0 : 0 < n
    · have d1 : decide (0 < (n : Int)) = true := by simp; omega
      have C1 := Lib.hid (fun w' h => c_pick g N A cap xs 8 w' h (by omega) (by omega))
      have hl130 : l.length ≤ 130 := by omega
      have hm130 : (m : Int) ≤ 130 := by omega
      have hn60 : (n : Int) ≤ 60 := by omega
      go_upto_region 4 with fail
      go_cut [7] (fun s wx => ∃ c : UInt8, s = .int .u8 (c.toNat : Int) ∧ Lett c ∧ Hid (Src g (N + 1) A cap xs wx) ∧ Hid (wx.ownsRow w.heap.size 5 1 u5 l.length (bytesV l)) ∧ Hid (Drawn g w.heap.size w wx))
      case first =>
        go_wp2_with (go_at_call 42; ((with_reducible refine (C1.out _ HS.out).mono ?_); rintro e w1 ⟨r, rfl, r0, r1, hS, hT⟩; replace HS := Lib.hid hS; replace HO := Lib.hid (own_tou HO.out hT hg); replace HB := Lib.hid (HB.out.tou hT); clear hS hT C1))
        go_meet
        exact ⟨_, rfl, lett_tab _ _, HS, HO, HB⟩
      case rest =>
        obtain ⟨c, rfl, hc, HS, HO, HB⟩ := hcut
        go_upto_region 5 with fail
        go_cut [31] (fun s wx => ∃ b : Bool, s = .bool b ∧ (b = false → tkN c ≤ n ∧ (m ≤ 9 ∨ mkN c ≤ tkN c)) ∧ Hid (Src g (N + 1) A cap xs wx) ∧ Hid (wx.ownsRow w.heap.size 5 1 u5 l.length (bytesV l)) ∧ Hid (Drawn g w.heap.size w wx))
        case first =>
          have HN := Lib.hid hn0
          by_cases h2 : 2 ≤ n <;> by_cases h9 : m ≤ 9
          · have d2 : decide ((n : Int) < 2) = false := by simp; omega
            have d9 : decide (9 < (m : Int)) = false := by simp; omega
            have h3 := Lib.hid h2
            have h4 := Lib.hid h9
            clear h2 h9
            rcases hc.is with rfl | rfl | rfl | rfl | rfl <;>
              (go_wp2; go_meet; exact ⟨_, rfl, fun _ => ⟨Nat.le_trans (by decide) h3.out, .inl h4.out⟩, HS, HO, HB⟩)
          · have d2 : decide ((n : Int) < 2) = false := by simp; omega
            have d9 : decide (9 < (m : Int)) = true := by simp; omega
            have h3 := Lib.hid h2
            clear h2 h9
            rcases hc.is with rfl | rfl | rfl | rfl | rfl <;>
              (go_wp2; go_meet; exact ⟨_, rfl, fun e => ⟨Nat.le_trans (by decide) h3.out, .inr (by first | decide | exact absurd e (by decide))⟩, HS, HO, HB⟩)
          · have d2 : decide ((n : Int) < 2) = true := by simp; omega
            have d9 : decide (9 < (m : Int)) = false := by simp; omega
            have h4 := Lib.hid h9
            clear h2 h9
            rcases hc.is with rfl | rfl | rfl | rfl | rfl <;>
              (go_wp2; go_meet; exact ⟨_, rfl, fun e => ⟨by first | exact absurd e (by decide) | exact Nat.le_trans (by decide) HN.out, .inl h4.out⟩, HS, HO, HB⟩)
          · have d2 : decide ((n : Int) < 2) = true := by simp; omega
            have d9 : decide (9 < (m : Int)) = true := by simp; omega
            clear h2 h9
            rcases hc.is with rfl | rfl | rfl | rfl | rfl <;>
              (go_wp2; go_meet; exact ⟨_, rfl, fun e => ⟨by first | exact absurd e (by decide) | exact Nat.le_trans (by decide) HN.out, .inr (by first | decide | exact absurd e (by decide))⟩, HS, HO, HB⟩)
        case rest =>
        clear HS HO HB
        obtain ⟨b, rfl, hbf, HS, HO, HB⟩ := hcut
        go_upto_if 31 with fail
        go_cut [7] (fun s wx => ∃ c : UInt8, s = .int .u8 (c.toNat : Int) ∧ Lett c ∧ tkN c ≤ n ∧ (m ≤ 9 ∨ mkN c ≤ tkN c) ∧ Hid (Src g (N + 1) A cap xs wx) ∧ Hid (wx.ownsRow w.heap.size 5 1 u5 l.length (bytesV l)) ∧ Hid (Drawn g w.heap.size w wx))
        case first =>
          have HN := Lib.hid hn0
          cases b
          · have h2 := Lib.hid (hbf rfl)
            clear hbf
            go_wp2
            go_meet
            exact ⟨c, rfl, hc, h2.out.1, h2.out.2, HS, HO, HB⟩
          · clear hbf
            go_wp2
            go_meet
            exact ⟨107, rfl, ⟨.inl rfl⟩, Nat.le_trans (by decide) HN.out, .inr (by decide), HS, HO, HB⟩
        case rest =>
          clear HS HO HB hc hbf b c
          obtain ⟨c, rfl, hc, htk, hmk, HS, HO, HB⟩ := hcut
          obtain ⟨b1, b2, b3⟩ := hc.bd
          obtain ⟨a, ha⟩ := HR.out
          have HR2 := Lib.hid (rowS_lett ha hc)
          have HT := Lib.hid (tkS_snoc l c)
          have HM := Lib.hid (mkS_snoc l c)
          have CT := fun w => Lib.hid (hc.tv.1 ▸ c_l05Takes c w)
          have CM := fun w => Lib.hid (hc.tv.2 ▸ c_l05Makes c w)
          clear ha a HR hc
          generalize tkN c = tn at *
          generalize mkN c = mn at *
          generalize hcc : (c.toNat : Int) = cn at *
          have HV2 : Hid (bytesV (l ++ [c]) = bytesV l ++ [.int .u8 cn]) := by rw [Hid, bytesV_append, bytesV_one, hcc]
          clear hcc
          go_wp2_with (first
            | (at_builtin; refine ap1 rfl (.tmp 32) (.tmp 34) 22 5 rfl (.int .u8 0) 1 1 w.heap.size Try.underlying22 (by kernel_rfl) rfl (by decide) u5 l.length (bytesV l) [.int .u8 cn] rfl rfl (by simp) rfl rfl HO.out HB.out.size (by omega) (by omega) ?_; intro g3 d3 w6 hown hg3 hat; have hBB := below_grown (Below.refl (w.heap.size) _) hg3 HO.out (Nat.le_refl _) HB.out.size; have HS6 := Lib.hid (HS.out.belowW hBB hg HA.out); have HO6 := Lib.hid hown; have HB6 := Lib.hid (HB.out.thenW hBB); clear hown hat hg3 hBB)
            | (go_at_call 38; ((with_reducible refine (CT _).out.mono ?_); rintro e w7 ⟨rfl, rfl⟩))
            | (go_at_call 39; ((with_reducible refine (CM _).out.mono ?_); rintro e w7 ⟨rfl, rfl⟩)))
          go_roundw
          case rel => exact ⟨n - tn, m + mn, N + 1, l ++ [c], by go_num, by go_num, by rw [HM.out]; omega, by rw [HT.out]; omega, by omega, by rw [HT.out, HM.out, List.length_append]; simp; omega, by rw [List.length_append]; simp; omega, HR2, HS6, (by rw [HV2.out, List.length_append]; exact HO6), HB6⟩
          case measure => simp [intOf]; omega
    · obtain rfl : n = 0 := by omega
      have d1 : decide (0 < ((0 : Nat) : Int)) = false := by simp
      have hcv := own_string (P := Try.prog) Try.underlying22 Try.underlying5 Try.underlying9 HO.out
      have HUp := Lib.hid (HS.out.up (N' := N0 + 130) (by omega))
      go_wp2
      exact bodyPost_ret (v := .string (str l)) (by simp [results, Try.results50, go_sem]) rfl ⟨l, rfl, HR.out, by omega, by omega, HUp.out, HB.out⟩
/-- Rows that follow one another. -/
def chain (loops : Int) : List (List UInt8) → Prop
  | [] => True
  | r :: rs => ∃ a, rowS r = some a ∧ loops ≠ 0 ∧ a.1 = loops ∧ a.2.1 ≤ 60 ∧ chain a.2.1 rs
/-- How many loops there are behind the last row. -/
def endW (loops : Int) : List (List UInt8) → Int
  | [] => loops
  | r :: rs => endW (mkS r : Int) rs
theorem chain_snoc : ∀ (L : List (List UInt8)) (loops : Int) (l : List UInt8) (a : Int × Int × Int), chain loops L → rowS l = some a → endW loops L ≠ 0 → a.1 = endW loops L → a.2.1 ≤ 60 → chain loops (L ++ [l])
  | [], loops, l, a, _, h1, h2, h3, h4 => ⟨a, h1, h2, h3, h4, trivial⟩
  | r :: rs, loops, l, a, ⟨b, b1, b2, b3, b4, b5⟩, h1, h2, h3, h4 => by
    have hm := (rowS_all b1).2
    rw [endW, ← hm] at h2 h3
    exact ⟨b, b1, b2, b3, b4, chain_snoc rs b.2.1 l a b5 h1 h2 h3 h4⟩
theorem endW_snoc : ∀ (L : List (List UInt8)) (loops : Int) (l : List UInt8), endW loops (L ++ [l]) = (mkS l : Int)
  | [], _, _ => rfl
  | r :: rs, _, l => endW_snoc rs _ l
theorem badG_chain : ∀ (L : List (List UInt8)) (loops : Int) (i : Nat), i + L.length ≤ 30 → chain loops L → badG loops i L < 0
  | [], _, _, _, _ => by simp [badG]
  | r :: rs, loops, i, hi, ⟨a, h1, h2, h3, h4, h5⟩ => by
    rw [badG_no h1 (by simp only [List.length_cons] at hi; omega)]
    exact badG_chain rs _ _ (by simp only [List.length_cons] at hi; omega) h5
theorem fabOk_chain {cast : Int} {L : List (List UInt8)} (h0 : 1 ≤ cast) (h1 : cast ≤ 60) (hL : L.length ≤ 30) (hc : chain cast L) : fabOk cast L = true := by
  rw [fabOk, Bool.and_eq_true, decide_eq_true_eq]
  exact ⟨by simp [inB]; omega, badG_chain L cast 0 (by omega) hc⟩
theorem fabC_one (cast : Int) (A : Option Addr) (n cap : Nat) : (#[.int .i16 cast, .slice A n cap] : Array Value).all (·.oneCell') = true := by simp [Value.oneCell']
theorem own_drawnW {w w1 : World} {b e s n g : Nat} {v : Value} {xs : List Value} (h : w.ownsRow b e s v n xs) (hD : Drawn g w.heap.size w w1) (hg : g < b) : w1.ownsRow b e s v n xs := by
  refine h.kept (row := some g) ⟨hD.os, hD.tape, hD.output, hD.size, fun k hk hr => hD.block k hk (fun e => hr (by rw [e]))⟩ (.inr fun e => ?_)
  have := own_up h g e
  omega
theorem c_rowL (l : List UInt8) (n : Nat) (w : World) (h : ∃ a, rowS l = some a) (ht : tkS l = n) (hn : n ≤ 900) (hm : mkS l ≤ n + 10) :
    Calls Try.prog 51 #[.string (str l)] w fun e w' => ∃ a0 : Int, e = .returned (.tuple #[.int .i64 a0, .int .i64 (mkS l : Int), .bool true]) ∧ w = w' := by
  obtain ⟨a, ha⟩ := h
  have hb := rowS_bd _ _ ha
  have hal := rowS_all ha
  refine (c_l05Row l (by omega) w).mono fun e w' h => ?_
  rw [(rowV_some ha).1, (rowV_some ha).2, hal.2] at h
  exact ⟨a.1, h.1, h.2⟩
set_option maxHeartbeats 4000000 in
theorem c_l05Drawn (g : Nat) (A : Option Addr) (cap : Nat) (xs : List Int) (w : World) (h : Src g 0 A cap xs w) (hA : ∀ ad, A = some ad → xs ≠ [] → ad.block < w.heap.size) :
    Calls Try.prog 22 #[.pointer (some ⟨g, 0, none⟩)] w fun e w' => ∃ (cast : Int) (L : List (List UInt8)) (AR : Option Addr) (cR : Nat), e = .returned (.agg #[.int .i16 cast, .slice AR L.length cR]) ∧ fabOk cast L = true ∧ cast ≤ 7 ∧ L.length ≤ 5 ∧ w'.ownsRow w.heap.size 9 1 (.slice AR L.length cR) L.length (strs L) ∧ Src g 700 A cap xs w' ∧ Drawn g w.heap.size w w' := by
  have hg : g < w.heap.size := by obtain ⟨_, _, _, _, hb⟩ := h.blk; exact blk_lt hb
  have hb0 : Below w.heap.size w (w.alloc (.cells #[.int .i16 0, .slice none 0 0] 27 (0, 0))) := below_alloc (Below.refl _ _) _
  have HS := Lib.hid (h.below hb0)
  have HB : Hid (Drawn g w.heap.size w (w.alloc (.cells #[.int .i16 0, .slice none 0 0] 27 (0, 0)))) := ⟨hb0.os, hb0.tape, hb0.output, hb0.size, fun i hi _ => hb0.block i hi⟩
  have HR := Lib.hid (heap_alloc_new w (.cells #[.int .i16 0, .slice none 0 0] 27 (0, 0)))
  have HA := Lib.hid hA
  have HI : Hid ((Try.prog.info? 27).map (·.size) = some 2) := by show (Try.prog.info? 27).map (·.size) = some 2; kernel_rfl
  have C1 := Lib.hid (fun w' h => c_pick g 0 A cap xs 7 w' h (by omega) (by omega))
  have C2 := Lib.hid (fun w' h => c_pick g 1 A cap xs 6 w' h (by omega) (by omega))
  clear h hA hb0
  go_enter Try.func22, Try.ntmps22
  go_upto_region 1 with fail
  generalize hwa : w.alloc (.cells #[.int .i16 0, .slice none 0 0] 27) = wa at *
  clear hwa
  go_wp2_with (first
    | (go_at_call 42; ((with_reducible refine (C1.out _ HS.out).mono ?_); rintro e w1 ⟨r, rfl, r0, r1, hS, hT⟩; have HS1 := Lib.hid hS; have HB1 := Lib.hid (HB.out.tou hT); have HR1 := Lib.hid (blk_tou HR.out hT (by omega)); clear hS hT C1 HS HB HR))
    | (go_at_call 42; have hb2 : Below w1.heap.size w1 (w1.alloc (.cells #[.int .i16 (1 + r), .slice none 0 0] 27 (0, 0))) := below_alloc (Below.refl _ _) _; have HF2 := Lib.hid (heap_alloc_new w1 (.cells #[.int .i16 (1 + r), .slice none 0 0] 27 (0, 0))); have HS2 := Lib.hid (HS1.out.below hb2); have HB2 := Lib.hid (HB1.out.thenW (hb2.mono HB1.out.size)); have HR2 := Lib.hid (blk_below HR1.out hb2); clear hb2; ((with_reducible refine (C2.out _ HS2.out).mono ?_); rintro e w3 ⟨k0, rfl, k0a, k0b, hS, hT⟩; have HS3 := Lib.hid hS; have HB3 := Lib.hid (HB2.out.tou hT); have HR3 := Lib.hid (blk_tou HR2.out hT (by omega)); have HF3 := Lib.hid (blk_tou HF2.out hT (by have := HB1.out.size; omega)); clear hS hT C2 HS2 HB2 HR2 HF2)))
  have hz1 : w.heap.size < w1.heap.size := blk_lt HR1.out
  have c1 : 1 ≤ 1 + r := by omega
  have c7 : 1 + r ≤ 7 := by omega
  clear HS1 HB1 HR1
  generalize w1.heap.size = G at *
  generalize 1 + r = C at *
  obtain ⟨c0, rfl⟩ := Int.eq_ofNat_of_zero_le (show 0 ≤ C by omega)
  obtain ⟨k1, rfl⟩ := Int.eq_ofNat_of_zero_le k0a
  clear r0 r1 k0a
  go_loopw [5, 6] (fun wd kv wr => ∃ (n k N : Nat) (L : List (List UInt8)) (vR : Value), wd = .int .i64 (n : Int) ∧ kv = .int .i64 (k : Int) ∧ L.length + k ≤ 5 ∧ endW (c0 : Int) L = (n : Int) ∧ n ≤ 7 + 10 * L.length ∧ N ≤ 2 + 130 * L.length ∧ Hid (chain (c0 : Int) L) ∧ Hid (Src g N A cap xs wr) ∧ Hid (wr.heap[G]? = some (.cells #[.int .i16 (c0 : Int), vR] 27 (0, 0))) ∧ Hid (wr.heap[w.heap.size]? = some (.cells #[.int .i16 0, .slice none 0 0] 27 (0, 0))) ∧ Hid (wr.ownsRow w.heap.size 9 1 vR L.length (strs L)) ∧ Hid (Drawn g w.heap.size w wr)) (fun _ kv _ => (intOf kv).toNat)
  case atStart => exact ⟨c0, k1, 2, [], .slice none 0 0, rfl, rfl, by simp; omega, rfl, by simp; omega, by simp, trivial, HS3, HF3, HR3, own_nil _ _ _ _, HB3⟩
  case round =>
    clear HS3 HF3 HR3 HB3
    obtain ⟨n, k, N, L, vR, rfl, rfl, hLk, hE, hn, hN, HC, HS, HF, HR, HO, HB⟩ := hrel
    by_cases hgo : 0 < k ∧ 0 < n
    · obtain ⟨hk0, hn0⟩ := hgo
      have d1 : decide (0 < (k : Int)) = true := by simp; omega
      have d2 : decide (0 < (n : Int)) = true := by simp; omega
      have CK := Lib.hid (fun w' h hA => c_l05Knit g N n A cap xs w' h hA (by omega) (by omega))
      have HA2 := Lib.hid (fun (w' : World) (hz : w.heap.size ≤ w'.heap.size) ad e en => Nat.lt_of_lt_of_le (HA.out ad e en) hz)
      have hL5 : L.length ≤ 5 := by omega
      have HGg := Lib.hid (show G ≠ g by omega)
      have HAd := Lib.hid (fun ad e en => show Addr.block ad ≠ G by have := HA.out ad e en; omega)
      have hL16 : (L.length + 1) * 16 ≤ 140737488355328 := by omega
      have hL17 : L.length + 1 ≤ 140737488355328 := by omega
      have n900 : n ≤ 900 := by omega
      have k5 : (k : Int) ≤ 5 := by omega
      have k1 : (1 : Int) ≤ (k : Int) := by omega
      have HZ := Lib.hid hz1
      have HL5 := Lib.hid hL5
      have HLk := Lib.hid hLk
      have HNN := Lib.hid hN
      have HNn := Lib.hid hn
      have HEn := Lib.hid hE
      have HCs := Lib.hid (fun l a => chain_snoc L (c0 : Int) l a HC.out)
      clear hLk hN hE hL5
      go_wp2_with (first
        | (go_at_call 50; ((with_reducible refine (CK.out _ HS.out (HA2.out _ HB.out.size)).mono ?_); rintro e w4 ⟨l, rfl, hrs, htk, hmk, hS, hD⟩; have HS4 := Lib.hid hS; have HF4 := Lib.hid ((hD.block G (blk_lt HF.out) HGg.out).trans HF.out); have HR4 := Lib.hid ((hD.block w.heap.size (blk_lt HR.out) (by omega)).trans HR.out); have HO4 := Lib.hid (own_drawnW HO.out hD hg); have HB4 := Lib.hid (HB.out.drawnW ⟨hD.os, hD.tape, hD.output, hD.size, fun i hi hg => hD.block i (Nat.lt_of_lt_of_le hi HB.out.size) hg⟩); have HRS := Lib.hid hrs; have HTK := Lib.hid htk; have HMK := Lib.hid hmk; have x1 := blk_cell HF4.out 1; have CR := Lib.hid (fun w' => c_rowL l n w' hrs htk n900 hmk); clear hS hD hrs htk hmk CK HS HF HR HO HB))
        | (at_builtin; refine ap1 rfl (.tmp 32) (.tmp 34) 25 9 rfl (.string (str [])) 1 16 w.heap.size Try.underlying25 (by kernel_rfl) rfl (by decide) vR L.length (strs L) [.string (str l)] rfl rfl (by simp) rfl rfl HO4.out HB4.out.size hL16 hL17 ?_; intro g5 d5 w6 hown hg5 hat; have hBB := below_grown (Below.refl w.heap.size w4) hg5 HO4.out (Nat.le_refl _) HB4.out.size; have HF6 := Lib.hid (blk_grownT HF4.out HO4.out (by decide) hg5); have x6 := blk_cell HF6.out 1; have f6 := blk_frozen HF6.out 1; have hT := Tou.setCell w6 G 1 (.slice (some ⟨g5, 0, none⟩) (L.length + 1) d5); have HF7 := Lib.hid (blk_set HF6.out 1 (.slice (some ⟨g5, 0, none⟩) (L.length + 1) d5)); have HO7 := Lib.hid (own_touT hown HF6.out (by decide) hT); have HR7 := Lib.hid (blk_tou (blk_grownT HR4.out HO4.out (by decide) hg5) hT (by have := HZ.out; omega)); have HS7 := Lib.hid ((HS4.out.belowW hBB hg HA.out).tou hT (Ne.symm HGg.out) HAd.out); have HB7 := Lib.hid ((HB4.out.thenW hBB).touB hT (Nat.le_of_lt HZ.out)); clear hown hg5 hat hBB hT HF6)
        | (go_at_call 51; ((with_reducible refine (CR.out _).mono ?_); rintro e w8 ⟨a0, rfl, rfl⟩)))
      obtain ⟨a, ha⟩ := HRS.out
      have hal := rowS_all ha
      have htk := HTK.out
      have hmk := HMK.out
      have hnn := HNn.out
      have hen := HEn.out
      have hl5 := HL5.out
      have hlk := HLk.out
      have HC7 : Hid (chain (c0 : Int) (L ++ [l])) := HCs.out l a ha (by rw [hen]; omega) (by rw [hen]; omega) (by omega)
      go_roundw
      case rel => exact ⟨mkS l, k - 1, N + 130, L ++ [l], _, rfl, by go_num, by have := HLk.out; simp; omega, endW_snoc _ _ _, by simp; omega, by have := HNN.out; simp; omega, HC7, HS7, HF7, HR7, by rw [strs_snoc, List.length_append]; exact HO7, HB7⟩
      case measure => simp [intOf]; omega
    · have HOk := Lib.hid (fabOk_chain (cast := (c0 : Int)) (L := L) c1 (by omega) (by omega) HC.out)
      obtain ⟨AR, cR, rfl, -⟩ := own_form HO.out
      have HU := Lib.hid (HS.out.up (N' := 700) (by omega))
      have hL5 : L.length ≤ 5 := by omega
      have HLL := Lib.hid hL5
      have y0 := blk_cell HF.out 0
      have y1 := blk_cell HF.out 1
      have hz0 := blk_lt HR.out
      clear hLk hE hn hN HC HS
      by_cases hk0 : 0 < k
      · have d1 : decide (0 < (k : Int)) = true := by simp; omega
        obtain rfl : n = 0 := by omega
        clear hgo
        go_wp2_with (refine ev_store_row rfl 27 (.tmp 2) (.tmp 44) rfl w.heap.size #[.int .i16 (c0 : Int), .slice AR L.length cR] rfl rfl 27 #[.int .i16 0, .slice none 0 0] HR.out HI.out rfl (fabC_one _ _ _ _) ?_; intro w9 hblk ht; have hR9 := Lib.hid hblk; have HO9 := Lib.hid (own_touT HO.out HR.out (by decide) ht); have HB9 := Lib.hid (HB.out.touB ht (Nat.le_refl _)); have HS9 := Lib.hid (HU.out.tou ht (by omega) (fun ad e en => by have := HA.out ad e en; omega)); clear hblk ht)
        exact bodyPost_ret (v := .agg #[.int .i16 (c0 : Int), .slice AR L.length cR]) (results_cell_row rfl _ _ w.heap.size 27 #[.int .i16 (c0 : Int), .slice AR L.length cR] (0, 0) _ rfl hR9.out Try.underlying27 rfl HI.out) rfl ⟨_, L, AR, cR, rfl, HOk.out, c7, HLL.out, HO9.out, HS9.out, HB9.out⟩
      · obtain rfl : k = 0 := by omega
        have d1 : decide (0 < ((0 : Nat) : Int)) = false := by simp
        clear hgo hk0
        go_wp2_with (refine ev_store_row rfl 27 (.tmp 2) (.tmp 44) rfl w.heap.size #[.int .i16 (c0 : Int), .slice AR L.length cR] rfl rfl 27 #[.int .i16 0, .slice none 0 0] HR.out HI.out rfl (fabC_one _ _ _ _) ?_; intro w9 hblk ht; have hR9 := Lib.hid hblk; have HO9 := Lib.hid (own_touT HO.out HR.out (by decide) ht); have HB9 := Lib.hid (HB.out.touB ht (Nat.le_refl _)); have HS9 := Lib.hid (HU.out.tou ht (by omega) (fun ad e en => by have := HA.out ad e en; omega)); clear hblk ht)
        exact bodyPost_ret (v := .agg #[.int .i16 (c0 : Int), .slice AR L.length cR]) (results_cell_row rfl _ _ w.heap.size 27 #[.int .i16 (c0 : Int), .slice AR L.length cR] (0, 0) _ rfl hR9.out Try.underlying27 rfl HI.out) rfl ⟨_, L, AR, cR, rfl, HOk.out, c7, HLL.out, HO9.out, HS9.out, HB9.out⟩
set_option maxHeartbeats 1000000 in
theorem c_P6Fabric (A : Option Addr) (cap : Nat) (xs : List Int) (w : World) (h : BytesAt w A xs) (hA : ∀ ad, A = some ad → xs ≠ [] → ad.block < w.heap.size) :
    Calls Try.prog 5 #[.slice A xs.length cap] w fun e w' => ∃ (cast : Int) (L : List (List UInt8)) (AR : Option Addr) (cR : Nat), e = .returned (.agg #[.int .i16 cast, .slice AR L.length cR]) ∧ fabOk cast L = true ∧ L.length ≤ 5 ∧ w'.ownsRow w.heap.size 9 1 (.slice AR L.length cR) L.length (strs L) ∧ Below w.heap.size w w' := by
  have hb0 : Below w.heap.size w (w.alloc (.cells #[.int .i16 0, .slice none 0 0] 27 (0, 0))) := below_alloc (Below.refl _ _) _
  have hz0 : w.heap.size ≤ (w.alloc (.cells #[.int .i16 0, .slice none 0 0] 27 (0, 0))).heap.size := hb0.size
  have CF := Lib.hid (c_l00From A cap xs _ (h.below hb0) (fun ad e en => Nat.lt_of_lt_of_le (hA ad e en) hz0))
  have HR := Lib.hid (heap_alloc_new w (.cells #[.int .i16 0, .slice none 0 0] 27 (0, 0)))
  have HB := Lib.hid hb0
  have HA := Lib.hid hA
  have HI : Hid ((Try.prog.info? 27).map (·.size) = some 2) := by show (Try.prog.info? 27).map (·.size) = some 2; kernel_rfl
  clear h hA hb0 hz0
  go_enter Try.func5, Try.ntmps5
  go_upto_region 1 with fail
  generalize hwa : w.alloc (.cells #[.int .i16 0, .slice none 0 0] 27) = wa at *
  clear hwa
  go_wp2_with (first
    | (go_at_call 23; ((with_reducible refine CF.out.mono ?_); rintro e w1 ⟨rfl, hS, hb⟩; have HR1 := Lib.hid (blk_below HR.out hb); have HB1 := Lib.hid (HB.out.trans (hb.mono HB.out.size)); have hlt := blk_lt HR.out; have hzb := hb.size; have C2 := Lib.hid (c_l05Drawn wa.heap.size A cap xs w1 hS (fun ad e en => Nat.lt_of_lt_of_le (HA.out ad e en) HB1.out.size)); clear hS hb))
    | (go_at_call 22; ((with_reducible refine C2.out.mono ?_); rintro e w2 ⟨cast, L, AR, cR, rfl, hok, hc7, hL5, hO, hS, hD⟩; have HOk := Lib.hid hok; have HL5 := Lib.hid hL5; have HO2 := Lib.hid (own_mono hO HB1.out.size); have HR2 := Lib.hid ((hD.block w.heap.size (blk_lt HR1.out) (by omega)).trans HR1.out); have HB2 := Lib.hid (HB1.out.trans (hD.belowW (by omega) HB1.out.size)); clear hok hL5 hO hS hD))
    | (refine ev_store_row rfl 27 (.tmp 2) (.tmp 5) rfl w.heap.size #[.int .i16 cast, .slice AR L.length cR] rfl rfl 27 #[.int .i16 0, .slice none 0 0] HR2.out HI.out rfl (fabC_one _ _ _ _) ?_; intro w9 hblk ht; have hR9 := Lib.hid hblk; have HO9 := Lib.hid (own_touT HO2.out HR2.out (by decide) ht); have HB9 := Lib.hid (HB2.out.trans (ht.below (Nat.le_refl _))); clear hblk ht))
  exact bodyPost_ret (v := .agg #[.int .i16 cast, .slice AR L.length cR]) (results_cell_row rfl _ _ w.heap.size 27 #[.int .i16 cast, .slice AR L.length cR] (0, 0) _ rfl hR9.out Try.underlying27 rfl HI.out) rfl ⟨_, L, AR, cR, rfl, HOk.out, HL5.out, HO9.out, HB9.out⟩
end Go.Proofs.Ytepdgbgolopejaa
