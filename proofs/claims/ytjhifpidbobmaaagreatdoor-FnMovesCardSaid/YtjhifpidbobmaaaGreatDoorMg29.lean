/- Texts laid together: MovJoin, NumWalk. -/
import Derived.Test.YtjhifpidbobmaaaGreatDoorMg28
import Derived.Lib.AppendIntMem
import Derived.Lib.ItoaMem
import Derived.WalkSmall
import Derived.Test.YtjhifpidbobmaaaGreatDoorMg27
import Derived.Lib.ParseIntBTie
import Derived.Lib.SmallJoins
/- The text of moves: the program's functions. -/
namespace Go.Proofs.YtjhifpidbobmaaaGreatDoor
open Go.RowKit
set_option linter.unusedVariables false
set_option linter.unusedSimpArgs false
set_option maxRecDepth 100000

/-- The table of the powers of ten lies as it was laid. -/
abbrev TabW (w : World) : Prop := Lib.TabIs Tryz.prog w "internal/strconv.uint64pow10" .u64 Lib.pow10Tab
theorem tab_name : (Tryz.prog.globalNamed "internal/strconv.uint64pow10").isSome = true := by kernel_rfl
theorem tab_below {w w1 : World} (h : TabW w) (hb : Below w.heap.size w w1) : TabW w1 := by
  obtain ⟨g, hg⟩ := Option.isSome_iff_exists.1 tab_name
  unfold TabW Lib.TabIs World.var? at h ⊢
  rw [hg] at h ⊢
  simp only [Option.bind_some] at h ⊢
  have hlt : g < w.heap.size := by
    rcases Nat.lt_or_ge g w.heap.size with h' | h'
    · exact h'
    · rw [Array.getElem?_eq_none h'] at h; cases h
  rw [hb.block g hlt]
  exact h
theorem c_decimalT (n : Nat) (hn : n < 1000000000) (w : World) (ht : TabW w) : Calls Tryz.prog 64 #[.int .i64 (n : Int)] w fun e w' => e = .returned (.string (str (Lib.decDigits n))) ∧ Below w.heap.size w w' := by
  have CF : Hid (Calls Tryz.prog 83 #[.int .i64 (n : Int), .int .i64 10] w fun e w' => e = .returned (.string (str (Lib.decDigits n))) ∧ Below w.heap.size w w') := by
    have h := Tryz.strconv_FormatInt_10 (n : Int) (by omega) (by omega) w ht
    refine h.mono fun e w' h => ?_
    obtain ⟨h1, k, os, rfl⟩ := h
    rw [Lib.itoa_nonneg] at h1
    exact ⟨h1, Go.Lib.below_grow _ w (Nat.le_refl _) k os⟩
  clear ht
  go_enter Tryz.func64, Tryz.ntmps64
  go_wp2_with (go_at_call 83; ((with_reducible refine CF.out.mono ?_); rintro e w1 ⟨rfl, hb⟩))
  go_ret
  exact ⟨rfl, hb⟩
/-- The texts of the first k moves. -/
def mvJ (s t g : Nat → Int) (k : Nat) : List (List UInt8) := (List.range k).map fun j => mvT (s j) (t j) (g j)
theorem mvJ_len (s t g : Nat → Int) (k : Nat) : (mvJ s t g k).length = k := by simp [mvJ]
theorem mvJ_succ (s t g : Nat → Int) (k : Nat) : mvJ s t g (k + 1) = mvJ s t g k ++ [mvT (s k) (t k) (g k)] := by simp [mvJ, List.range_succ]
theorem join_snoc (sep x : List UInt8) : ∀ L : List (List UInt8), Lib.join (L ++ [x]) sep = Lib.join L sep ++ (if L = [] then [] else sep) ++ x
  | [] => by simp [Lib.join, List.intercalate]
  | [y] => by simp [Lib.join, List.intercalate]
  | y :: z :: M => by
    have ih := join_snoc sep x (z :: M)
    have e : ∀ N : List (List UInt8), Lib.join (y :: z :: N) sep = y ++ sep ++ Lib.join (z :: N) sep := fun N => by simp [Lib.join, List.intercalate]
    rw [if_neg (by simp)] at ih ⊢
    rw [List.cons_append, List.cons_append, e, e, ← List.cons_append, ih]
    simp [List.append_assoc]
theorem join_mvL (s t g : Nat → Int) : ∀ k, Lib.join (mvJ s t g k) [32] = mvTxt s t g k
  | 0 => by simp [mvJ, mvTxt, Lib.join, List.intercalate]
  | k + 1 => by
    rw [mvJ_succ, join_snoc, join_mvL s t g k, mvTxt]
    by_cases hk : k = 0
    · subst hk; simp [mvJ]
    · rw [if_neg (fun e => hk (by have := congrArg List.length e; simpa [mvJ_len] using this)), if_neg hk]
theorem strs_len (L : List (List UInt8)) : (strs L).length = L.length := by simp [strs]
/-- strings.Join of a row of texts of the call's own. -/
theorem c_joinMv (v : Value) (base n : Nat) (s t g : Nat → Int) (w : World) (hO : w.ownsRow base 9 1 v n (strs (mvJ s t g n))) (hlen : (mvTxt s t g n).length ≤ 4000000) (hn : n ≤ 1100000) :
    Calls Tryz.prog 65 #[v, .string ⟨#[32]⟩] w fun e w' => e = .returned (.string (str (mvTxt s t g n))) ∧ Below w.heap.size w w' := by
  rcases hO.2 with ⟨rfl, rfl⟩ | ⟨gb, cap, cur, rfl, _, hgb, hnc, _⟩
  · refine (Tryz.strings_Join_none none 0 ⟨#[32]⟩ w).mono fun e w' h => ?_
    obtain ⟨rfl, rfl⟩ := h
    exact ⟨rfl, Below.refl _ _⟩
  · have hm : ((mvJ s t g n).map str).map (·.data.toList) = mvJ s t g n := by
      rw [List.map_map]
      conv => rhs; rw [← List.map_id (mvJ s t g n)]
      exact List.map_congr_left fun l _ => by simp [str]
    have := Tryz.strings_Join gb 0 cap ((mvJ s t g n).map str) ⟨#[32]⟩ w (fun j x hj => by
        obtain ⟨l, hl, rfl⟩ := List.getElem?_eq_some_iff.1 hj
        have hjl : j < (mvJ s t g n).length := by simpa using l
        have := (own_get hO (strs_get hjl)).1
        rw [Nat.zero_add, this]
        simp [List.getD_eq_getElem?_getD, hjl]) (own_lo hO (Nat.le_refl _) gb rfl) (by simp [mvJ_len]; omega) (by simpa [mvJ_len] using hnc) (by rw [hm]; show (Lib.join (mvJ s t g n) [32]).length ≤ _; rw [join_mvL]; exact Nat.le_trans hlen (by decide))
    rw [hm, List.length_map, mvJ_len] at this
    refine this.mono fun e w' h => ?_
    obtain ⟨rfl, hb⟩ := h
    exact ⟨congrArg (fun z => Ending.returned (.string (str z))) (join_mvL s t g n), hb⟩
/-- What the region of a move's text keeps. -/
abbrev XW (w0 : World) (b : Nat) (x y z : Int) (v : Value) (k : Nat) (L : List Value) (w' : World) : Prop :=
  (w'.cell? ⟨b, 0, none⟩ = some (.int .i8 x) ∧ w'.cell? ⟨b, 1, none⟩ = some (.int .i8 y) ∧ w'.cell? ⟨b, 2, none⟩ = some (.int .i16 z)) ∧ Hid (w'.ownsRow w0.heap.size 9 1 v k L) ∧ Hid (∀ i, v.ownBlock = some i → i < b) ∧ Hid (Below w0.heap.size w0 w') ∧ Hid (b < w'.heap.size)
section
variable {w0 w' w1 : World} {b k : Nat} {x y z : Int} {v : Value} {L : List Value}
theorem xw_below (hb : Below w'.heap.size w' w1) (h : XW w0 b x y z v k L w') : XW w0 b x y z v k L w1 :=
  ⟨⟨(hb.cell (p := ⟨b, 0, none⟩) h.2.2.2.2.out).trans h.1.1, (hb.cell (p := ⟨b, 1, none⟩) h.2.2.2.2.out).trans h.1.2.1, (hb.cell (p := ⟨b, 2, none⟩) h.2.2.2.2.out).trans h.1.2.2⟩, own_below h.2.1.out hb, h.2.2.1, below_then h.2.2.2.1.out hb, Nat.lt_of_lt_of_le h.2.2.2.2.out hb.size⟩
theorem xw_alloc (o : Obj) (h : XW w0 b x y z v k L w') : XW w0 b x y z v k L (w'.alloc o) := xw_below (below_alloc (Below.refl _ _) _) h
theorem xw_drew (h : XW w0 b x y z v k L w') : XW w0 b x y z v k L w'.drew := ⟨h.1, own_drew h.2.1.out, h.2.2.1, below_drew h.2.2.2.1.out, h.2.2.2.2⟩
theorem xw_own (h : XW w0 b x y z v k L w') : w'.ownsRow w0.heap.size 9 1 v k L := h.2.1.out
theorem xw_B (h : XW w0 b x y z v k L w') : Below w0.heap.size w0 w' := h.2.2.2.1.out
theorem xw_grown (hO : w1.ownsRow w0.heap.size 9 1 v k L) (hG : w'.grownBy w1 v.ownBlock) (h : XW w0 b x y z v k L w') : XW w0 b x y z v k L w1 := by
  have hblk : w1.heap[b]? = w'.heap[b]? := hG.block b h.2.2.2.2.out (fun e => Nat.lt_irrefl _ (h.2.2.1.out b e.symm))
  have hc : ∀ j, w1.cell? ⟨b, j, none⟩ = w'.cell? ⟨b, j, none⟩ := fun j => World.cell?_of_block hblk
  exact ⟨⟨(hc 0).trans h.1.1, (hc 1).trans h.1.2.1, (hc 2).trans h.1.2.2⟩, hO, h.2.2.1, below_grown h.2.2.2.1.out hG h.2.1.out (Nat.le_refl _) h.2.2.2.1.out.size, Nat.lt_of_lt_of_le h.2.2.2.2.out hG.size⟩
end
theorem news_str {w : World} {G : Nat} {u : Value} {t : TypeId} (h : w.heap[G]? = some (.cells #[u] t (0, 0))) : ∀ j y, [u][j]? = some y → w.cell? ((⟨G, 0, none⟩ : Addr).add j) = some y := World.news_of_block (cs := #[u]) h
set_option maxHeartbeats 4000000 in
theorem c_movesText (A : Option Addr) (n c : Nat) (s t g : Nat → Int) (w : World) (h : MovesAt w A n s t g) (hn : n ≤ 60) (hok : ∀ j, j < n → MvOk (s j) (t j) (g j)) (ht : TabW w) :
    Calls Tryz.prog 34 #[.slice A n c] w fun e w' => e = .returned (.string (str (mvTxt s t g n))) ∧ Below w.heap.size w w' := by
  have H := Lib.hid h
  have HK := Lib.hid hok
  have HT : Hid (TabW w) := ht
  have CD := Lib.hid (fun (x : Int) (hx : 0 ≤ x ∧ x ≤ 5000) w ht => (show Calls Tryz.prog 64 #[.int .i64 x] w fun e w' => e = .returned (.string (str (Lib.decDigits x.toNat))) ∧ Below w.heap.size w w' from by
    have := c_decimalT x.toNat (by omega) w ht
    rw [Int.toNat_of_nonneg hx.1] at this
    exact this))
  clear h hok ht
  go_enter Tryz.func34, Tryz.ntmps34
  go_wp2
  go_loopw [8, 3] (fun i v wr => ∃ k : Nat, k ≤ n ∧ i = .int .i64 k ∧ Hid (wr.ownsRow w.heap.size 9 1 v k (strs (mvJ s t g k))) ∧ Hid (Below w.heap.size w wr)) (fun i _ _ => n - (intOf i).toNat)
  case atStart => exact ⟨0, by omega, rfl, own_nil _ _ _ _, Below.refl _ _⟩
  case round =>
    obtain ⟨k, hk, rfl, hO, hB⟩ := hrel
    by_cases hlt : k < n
    · have d1 : decide ((k : Int) < (n : Int)) = true := by simp; omega
      have k0 : (0 : Int) ≤ (k : Int) := by omega
      have k1 : (k : Int) < (n : Int) := by omega
      have HM := Lib.hid (H.out.below hB.out)
      obtain ⟨ad, rfl, x0, x1, x2⟩ := HM.out.at_ k hlt
      have hmk := HK.out k hlt
      obtain ⟨⟨a0, a1⟩, ⟨b0, b1⟩, g0, g1⟩ := hmk
      have CA := Lib.hid (CD.out (s k) ⟨a0, by omega⟩)
      have CB := Lib.hid (CD.out (t k) ⟨b0, by omega⟩)
      have CG := Lib.hid (CD.out (g k) ⟨by omega, g1⟩)
      have wa : IntKind.i64.wrap (s k) = s k := IntWalk.i64_in _ (by omega)
      have wb : IntKind.i64.wrap (t k) = t k := IntWalk.i64_in _ (by omega)
      have wg : IntKind.i64.wrap (g k) = g k := IntWalk.i64_in _ (by omega)
      have la : (str (Lib.decDigits (s k).toNat)).size ≤ 10 := by rw [str_size]; have := dec_len 0 (s k).toNat (by omega); omega
      have lb : (str (Lib.decDigits (t k).toNat)).size ≤ 10 := by rw [str_size]; have := dec_len 0 (t k).toNat (by omega); omega
      have lg : (str (Lib.decDigits (g k).toNat)).size ≤ 10 := by rw [str_size]; have := dec_len 3 (g k).toNat (by omega); omega
      have EM : Hid (mvT (s k) (t k) (g k) = Lib.decDigits (s k).toNat ++ [62] ++ Lib.decDigits (t k).toNat ++ [58] ++ Lib.decDigits (g k).toNat) := rfl
      have EL := Lib.hid (mvJ_succ s t g k)
      generalize Lib.decDigits (s k).toNat = da at CA la EM
      generalize Lib.decDigits (t k).toNat = db at CB lb EM
      generalize Lib.decDigits (g k).toNat = dg at CG lg EM
      have z1 : ¬ 9223372036854775807 < (str da).size + 1 := by omega
      have z2 : ¬ 9223372036854775807 < (str da).size + 1 + (str db).size := by omega
      have z3 : ¬ 9223372036854775807 < (str da).size + 1 + (str db).size + 1 := by omega
      have z4 : ¬ 9223372036854775807 < (str da).size + 1 + (str db).size + 1 + (str dg).size := by omega
      have q1 : (⟨#[62]⟩ : ByteArray) = str [62] := rfl
      have q2 : (⟨#[58]⟩ : ByteArray) = str [58] := rfl
      have Q := Lib.hid (And.intro q1 q2)
      have hsx : XW w wr.heap.size (s k) (t k) (g k) u3 k (strs (mvJ s t g k)) (wr.alloc (.cells #[.int .i8 (s k), .int .i8 (t k), .int .i16 (g k)] 46 (0, 0))) :=
        ⟨⟨blk_cell (heap_alloc_new wr _) 0, blk_cell (heap_alloc_new wr _) 1, blk_cell (heap_alloc_new wr _) 2⟩, hO.out.alloc _, own_lo hO.out (Nat.le_refl _), below_alloc hB.out _, Lib.hid (by simp)⟩
      have HS0 : Hid (XW w wr.heap.size (s k) (t k) (g k) u3 k (strs (mvJ s t g k)) (wr.alloc (.cells #[.int .i8 (s k), .int .i8 (t k), .int .i16 (g k)] 46 (0, 0))).drew) := xw_drew hsx
      clear q1 q2 hsx
      have HM1 : Hid (k + 1 ≤ maxLen) := by rw [Hid]; simp only [maxLen]; omega
      have HM2 : Hid ((k + 1) * 16 ≤ 140737488355328) := by rw [Hid]; omega
      go_wp2
      go_region_held3 (fun w' => (w'.cell? ⟨wr.heap.size, 0, none⟩ = some (.int .i8 (s k)) ∧ w'.cell? ⟨wr.heap.size, 1, none⟩ = some (.int .i8 (t k)) ∧ w'.cell? ⟨wr.heap.size, 2, none⟩ = some (.int .i16 (g k))) ∧ Hid (w'.ownsRow w.heap.size 9 1 u3 k (strs (mvJ s t g k))) ∧ Hid (∀ i, u3.ownBlock = some i → i < wr.heap.size) ∧ Hid (Below w.heap.size w w') ∧ Hid (wr.heap.size < w'.heap.size))
        (first
          | exact HS0.out
          | exact hS3
          | exact hS4
          | (with_reducible exact xw_alloc _ (by assumption))
          | exact xw_below hb1 (by assumption)
          | exact xw_below hb2 (by assumption)
          | exact xw_below hb3 (by assumption)
          | exact xw_below hb1 HS0.out
          | exact xw_below hb2 (xw_below hb1 HS0.out)
          | exact xw_below hb3 (xw_below hb2 (xw_below hb1 HS0.out)))
        (first
          | (go_at_call 64; ((with_reducible refine (CA.out _ (tab_below HT.out (xw_B HS0.out))).mono ?_); rintro e wa1 ⟨rfl, hb1⟩))
          | (go_at_call 64; ((with_reducible refine (CB.out _ (tab_below HT.out (xw_B (xw_below hb1 HS0.out)))).mono ?_); rintro e wa2 ⟨rfl, hb2⟩))
          | (go_at_call 64; ((with_reducible refine (CG.out _ (tab_below HT.out (xw_B (xw_below hb2 (xw_below hb1 HS0.out))))).mono ?_); rintro e wa3 ⟨rfl, hb3⟩; have hS3 := xw_alloc (.cells #[.string (str da ++ (⟨#[62]⟩ : ByteArray) ++ str db ++ (⟨#[58]⟩ : ByteArray) ++ str dg)] 9 (0, 0)) (xw_below hb3 (xw_below hb2 (xw_below hb1 HS0.out)))))
          | ((refine step_append_keep (by rfl) (.tmp 12) (.tmp 29) 59 (by rfl) 9 (.string (str [])) 1 16 Tryz.underlying59 (by kernel_rfl) rfl (by decide) w.heap.size u3 k (strs (mvJ s t g k)) (by rfl) (xw_own hS3) ⟨wa3.heap.size, 0, none⟩ 1 1 [.string (str da ++ (⟨#[62]⟩ : ByteArray) ++ str db ++ (⟨#[58]⟩ : ByteArray) ++ str dg)] (by rfl) (by rfl) (news_str (heap_alloc_new wa3 _)) (by intro u hu; obtain rfl := List.mem_singleton.1 hu; rfl) (Nat.lt_succ_self 0) HM1.out HM2.out (xw_B hS3).size ?_); intro g2 c2 w2 hN2 hG2 hat2 hold2; have hS4 := xw_grown hold2 hG2 hS3; have HN2 := Lib.hid hN2; clear hN2))
      all_goals
        go_wp2
        have hE : str da ++ (⟨#[62]⟩ : ByteArray) ++ str db ++ (⟨#[58]⟩ : ByteArray) ++ str dg = str (mvT (s k) (t k) (g k)) := by
          rw [EM.out, Q.out.1, Q.out.2]
          simp only [str_append]
        rw [hE] at HN2
        have hB4 := xw_B hS4
        go_roundw
        case rel => exact ⟨k + 1, by omega, by go_num, by rw [EL.out, strs_snoc]; exact HN2, hB4⟩
        case measure => simp [intOf]; omega
    · obtain rfl : k = n := by omega
      have d1 : decide ((k : Int) < (k : Int)) = false := by simp
      have hl := mvTxt_len HK.out k hk
      have CJ := Lib.hid (c_joinMv u3 w.heap.size k s t g wr hO.out (by omega) (by omega))
      go_wp2_with (go_at_call 65; ((with_reducible refine CJ.out.mono ?_); rintro e w1 ⟨rfl, hb⟩))
      exact bodyPost_ret (v := .string (str (mvTxt s t g k))) (by simp [results, Tryz.results34, go_sem]) rfl ⟨rfl, below_then hB.out hb⟩
theorem movTextF_eq {n : Nat} {s t g : Nat → Int} {c : Bool} (h : (allB n (fun j => okMove (s j) (t j) (g j)) && decide (n ≤ 60)) = c) : movTextF n s t g = if c = true then mvTxt s t g n else [] := by
  subst h; rfl
theorem ok_moves {n : Nat} {s t g : Nat → Int} (h : (allB n (fun j => okMove (s j) (t j) (g j)) && decide (n ≤ 60)) = true) : n ≤ 60 ∧ ∀ j, j < n → MvOk (s j) (t j) (g j) := by
  rw [Bool.and_eq_true, decide_eq_true_eq] at h
  exact ⟨h.2, fun j hj => okMove_bd (allB_get h.1 j hj)⟩
set_option maxHeartbeats 1000000 in
theorem c_iMovesText (A : Option Addr) (n c : Nat) (s t g : Nat → Int) (w : World) (h : MovesAt w A n s t g) (hn : n ≤ 1048576) (hg : ∀ j, j < n → (-32768 ≤ g j ∧ g j ≤ 32767) ∧ (-128 ≤ s j ∧ s j ≤ 127) ∧ (-128 ≤ t j ∧ t j ≤ 127)) (ht : TabW w) :
    Calls Tryz.prog 7 #[.slice A n c] w fun e w' => e = .returned (.string (str (movTextF n s t g))) ∧ Below w.heap.size w w' := by
  have CV := Lib.hid (c_iValidMoves A n c s t g w h hn hg)
  have H := Lib.hid h
  have HT : Hid (TabW w) := ht
  clear h ht
  cases q1 : (allB n (fun j => okMove (s j) (t j) (g j)) && decide (n ≤ 60))
  · have E := Lib.hid (movTextF_eq q1)
    rw [q1] at CV
    go_enter Tryz.func7, Tryz.ntmps7
    go_wp2_with (go_at_call 18; ((with_reducible refine CV.out.mono ?_); rintro e w1 ⟨rfl, hb⟩))
    go_ret
    exact ⟨by rw [E.out]; rfl, hb⟩
  · have E := Lib.hid (movTextF_eq q1)
    have CX := Lib.hid (fun w h ht => c_movesText A n c s t g w h (ok_moves q1).1 (ok_moves q1).2 ht)
    rw [q1] at CV
    go_enter Tryz.func7, Tryz.ntmps7
    go_wp2_with (first
      | (go_at_call 18; ((with_reducible refine CV.out.mono ?_); rintro e w1 ⟨rfl, hb⟩; have HB1 := Lib.hid hb; clear hb))
      | (go_at_call 34; ((with_reducible refine (CX.out _ (H.out.below HB1.out) (tab_below HT.out HB1.out)).mono ?_); rintro e w2 ⟨rfl, hb⟩; have HB2 := Lib.hid (below_then HB1.out hb); clear hb)))
    go_ret
    exact ⟨by rw [E.out]; rfl, HB2.out⟩
end Go.Proofs.YtjhifpidbobmaaaGreatDoor
/- Numbers read from texts: the reference's function, the program's. -/
namespace Go.Proofs.YtjhifpidbobmaaaGreatDoor
open Go.RowKit
set_option linter.unusedVariables false
set_option linter.unusedSimpArgs false
set_option maxRecDepth 100000

theorem okNum_no {l : List UInt8} {k : Nat} {h : k < l.length} {c : UInt8} (hc : l[k] = c) (hd : isD c = false) : okNum l = false := by
  have : l.all isD = false := by
    rw [List.all_eq_false]
    exact ⟨l[k], List.getElem_mem h, by rw [hc, hd]; simp⟩
  rw [okNum, this, Bool.and_false]
theorem valD_take {l : List UInt8} {k : Nat} {h : k < l.length} {c : UInt8} (hc : l[k] = c) : valD (l.take (k + 1)) = 10 * valD (l.take k) + (c.toNat - 48) := by
  rw [List.take_add_one, List.getElem?_eq_getElem h, hc]
  exact valD_snoc _ _
theorem all_take {l : List UInt8} {k : Nat} {h : k < l.length} {c : UInt8} (hc : l[k] = c) (hd : isD c = true) (ha : (l.take k).all isD = true) : (l.take (k + 1)).all isD = true := by
  rw [List.take_add_one, List.getElem?_eq_getElem h, hc]
  simp [ha, hd]
theorem valD_bd {l : List UInt8} (h : l.all isD = true) (hl : l.length ≤ 9) : valD l < 1000000000 := by
  have h1 := valD_lt _ l rfl h
  have h5 : 10 ^ l.length ≤ 10 ^ 9 := Nat.pow_le_pow_right (by omega) hl
  omega
theorem okNum_yes {l : List UInt8} (hne : l ≠ []) (hl : l.length ≤ 9) (h0 : l.head? = some 48 → l.length = 1) (hd : l.all isD = true) : okNum l = true := by
  simp only [okNum, Bool.and_eq_true, Bool.not_eq_true', decide_eq_true_eq, hd, and_true]
  refine ⟨⟨by simpa using hne, hl⟩, ?_⟩
  rw [Bool.and_eq_false_iff]
  by_cases e : l.head? = some 48
  · right; have := h0 e; simp; omega
  · left; simp [e]
/-- What the reference reads of a text. -/
def numV (l : List UInt8) : Int := if okNum l = true then (valD l : Int) else 0
theorem numV_no {l : List UInt8} (h : okNum l = false) : numV l = 0 := by rw [numV, h]; rfl
theorem numV_yes {l : List UInt8} (h : okNum l = true) : numV l = (valD l : Int) := by rw [numV, h]; rfl
/-- The library's variables that the program leans on. -/
structure Laid (w : World) : Prop where
  tab : TabW w
  top : ∃ m, w.cell? ⟨0, 0, none⟩ = some (.int .i64 m)
  syn : ∃ ev, w.cell? ⟨3, 0, none⟩ = some ev ∧ (ev = .nilIface ∨ ∃ te pe, ev = .iface te pe)
  rng : ∃ ev, w.cell? ⟨4, 0, none⟩ = some ev ∧ (ev = .nilIface ∨ ∃ te pe, ev = .iface te pe)
theorem Laid.below {w w1 : World} (h : Laid w) (hb : Below w.heap.size w w1) : Laid w1 := by
  have hc : ∀ {a : Addr} {v : Value}, w.cell? a = some v → w1.cell? a = some v := fun {a v} hc => (hb.cell (World.block_lt_of_cell? w a hc)).trans hc
  obtain ⟨m, hm⟩ := h.top
  obtain ⟨e1, h1, h2⟩ := h.syn
  obtain ⟨e3, h3, h4⟩ := h.rng
  exact ⟨tab_below h.tab hb, ⟨m, hc hm⟩, ⟨e1, hc h1, h2⟩, ⟨e3, hc h3, h4⟩⟩
theorem sat_bd (l : List UInt8) : -32768 ≤ Lib.intSat 16 l ∧ Lib.intSat 16 l ≤ 32767 := by
  unfold Lib.intSat
  split <;> constructor <;> decide
theorem sat_bd64 (l : List UInt8) : -9223372036854775808 ≤ Lib.intSat 64 l ∧ Lib.intSat 64 l ≤ 9223372036854775807 := by
  unfold Lib.intSat
  split <;> constructor <;> decide
/-- strconv.ParseInt, as far as the program needs it: what it gives is the text's alone. -/
theorem c_parse16 (t : List UInt8) (ht : t.length ≤ 1048576) : ∃ (v : Int) (ok : Bool), (-32768 ≤ v ∧ v ≤ 32767) ∧ (∀ n, n < 32768 → t = Lib.decDigits n → ok = true ∧ v = (n : Int)) ∧ ∀ w, Laid w →
    Calls Tryz.prog 82 #[.string (str t), .int .i64 10, .int .i64 16] w fun e w' => ∃ x, e = .returned (.tuple #[.int .i64 v, x]) ∧ (ok = true → x = .nilIface) ∧ (ok = false → ∃ ty p, x = .iface ty p) ∧ Below w.heap.size w w' := by
  have hd : (str t).data.toList = t := by simp [str]
  cases hr : Lib.parseIntB 16 t with
  | ok v =>
    have hb := Lib.parseIntB_bounds hr
    refine ⟨v, true, ⟨by simpa using hb.1, by have := hb.2; simp at this; omega⟩, fun n hn e => ⟨rfl, ?_⟩, fun w hL => ?_⟩
    · rw [e, parse_dec 16 n (by decide) (by show n ≤ 65535; omega) (by show n < 32768; omega)] at hr
      injection hr with hr
      exact hr.symm
    · refine (Tryz.strconv_ParseInt_10_at16_ok (str t) (by rw [str_size]; omega) v (by rw [hd]; exact hr) w).mono fun e w' h => ?_
      obtain ⟨rfl, hw⟩ := h
      refine ⟨.nilIface, rfl, fun _ => rfl, fun h => (by cases h), ?_⟩
      rcases hw with rfl | ⟨t', rfl⟩
      · exact Below.refl _ _
      · exact Joins.below_bytesWorld _ _ _ _ (Nat.le_refl _)
  | range =>
    refine ⟨Lib.intSat 16 t, false, sat_bd _, fun n hn e => ?_, fun w hL => ?_⟩
    · rw [e, parse_dec 16 n (by decide) (by show n ≤ 65535; omega) (by show n < 32768; omega)] at hr
      cases hr
    · obtain ⟨ev, h1, h2⟩ := hL.rng
      refine (Tryz.strconv_ParseInt_10_at16_range (str t) (by rw [str_size]; omega) (by rw [hd]; exact hr) ev w h1 h2).mono fun e w' h => ?_
      obtain ⟨N, rfl, _, _, hb⟩ := h
      exact ⟨_, by rw [hd], fun h => (by cases h), fun _ => ⟨_, _, rfl⟩, hb⟩
  | _ =>
    refine ⟨0, false, ⟨by omega, by omega⟩, fun n hn e => ?_, fun w hL => ?_⟩
    · rw [e, parse_dec 16 n (by decide) (by show n ≤ 65535; omega) (by show n < 32768; omega)] at hr
      cases hr
    · obtain ⟨ev, h1, h2⟩ := hL.syn
      refine (Any.strconv_ParseInt_10_at16_syntax Tryz.laysC174 (str t) (by rw [str_size]; omega) (by rw [hd]; exact hr) ev w h1 h2).mono fun e w' h => ?_
      obtain ⟨N, rfl, _, _, hb⟩ := h
      exact ⟨_, rfl, fun h => (by cases h), fun _ => ⟨_, _, rfl⟩, hb⟩
set_option maxHeartbeats 1000000 in
theorem c_small16 (t : List UInt8) (ht : t.length ≤ 1048576) : ∃ (v : Int) (ok : Bool), (-32768 ≤ v ∧ v ≤ 32767) ∧ (∀ n, n < 32768 → t = Lib.decDigits n → ok = true ∧ v = (n : Int)) ∧ ∀ w, Laid w →
    Calls Tryz.prog 63 #[.string (str t), .int .i64 16] w fun e w' => e = .returned (.tuple #[.int .i64 v, .bool ok]) ∧ Below w.heap.size w w' := by
  obtain ⟨v, ok, h1, h2, h3⟩ := c_parse16 t ht
  refine ⟨v, ok, h1, h2, fun w hL => ?_⟩
  have CP := Lib.hid (h3 w hL)
  clear hL h3 h2
  cases ok
  · go_enter Tryz.func63, Tryz.ntmps63
    go_wp2_with (go_at_call 82; ((with_reducible refine CP.out.mono ?_); rintro e w1 ⟨x, rfl, hx, hy, hb⟩; obtain ⟨ty, p, rfl⟩ := hy rfl; clear hx hy))
    go_quiet (fail)
    go_wp2
    exact bodyPost_ret (v := .tuple #[.int .i64 v, .bool false]) (by simp [results, Tryz.results63, go_sem]) rfl ⟨rfl, hb.trans (below_drewN (Below.refl _ _) _)⟩
  · go_enter Tryz.func63, Tryz.ntmps63
    go_wp2_with (go_at_call 82; ((with_reducible refine CP.out.mono ?_); rintro e w1 ⟨x, rfl, hx, hy, hb⟩; obtain rfl := hx rfl; clear hx hy))
    go_quiet (fail)
    go_wp2
    exact bodyPost_ret (v := .tuple #[.int .i64 v, .bool true]) (by simp [results, Tryz.results63, go_sem]) rfl ⟨rfl, hb.trans (below_drewN (Below.refl _ _) _)⟩
/-- strconv.ParseInt, as far as the program needs it: what it gives is the text's alone. -/
theorem c_parse64 (t : List UInt8) (ht : t.length ≤ 1048576) : ∃ (v : Int) (ok : Bool), (-9223372036854775808 ≤ v ∧ v ≤ 9223372036854775807) ∧ (∀ n, n < 32768 → t = Lib.decDigits n → ok = true ∧ v = (n : Int)) ∧ ∀ w, Laid w →
    Calls Tryz.prog 82 #[.string (str t), .int .i64 10, .int .i64 64] w fun e w' => ∃ x, e = .returned (.tuple #[.int .i64 v, x]) ∧ (ok = true → x = .nilIface) ∧ (ok = false → ∃ ty p, x = .iface ty p) ∧ Below w.heap.size w w' := by
  have hd : (str t).data.toList = t := by simp [str]
  cases hr : Lib.parseIntB 64 t with
  | ok v =>
    have hb := Lib.parseIntB_bounds hr
    refine ⟨v, true, ⟨by simpa using hb.1, by have := hb.2; simp at this; omega⟩, fun n hn e => ⟨rfl, ?_⟩, fun w hL => ?_⟩
    · rw [e, parse_dec 64 n (by decide) (by show n ≤ 18446744073709551615; omega) (by show n < 9223372036854775808; omega)] at hr
      injection hr with hr
      exact hr.symm
    · refine (Tryz.strconv_ParseInt_10_at64_ok (str t) (by rw [str_size]; omega) v (by rw [hd]; exact hr) w).mono fun e w' h => ?_
      obtain ⟨rfl, hw⟩ := h
      refine ⟨.nilIface, rfl, fun _ => rfl, fun h => (by cases h), ?_⟩
      rcases hw with rfl | ⟨t', rfl⟩
      · exact Below.refl _ _
      · exact Joins.below_bytesWorld _ _ _ _ (Nat.le_refl _)
  | range =>
    refine ⟨Lib.intSat 64 t, false, sat_bd64 _, fun n hn e => ?_, fun w hL => ?_⟩
    · rw [e, parse_dec 64 n (by decide) (by show n ≤ 18446744073709551615; omega) (by show n < 9223372036854775808; omega)] at hr
      cases hr
    · obtain ⟨ev, h1, h2⟩ := hL.rng
      refine (Tryz.strconv_ParseInt_10_at64_range (str t) (by rw [str_size]; omega) (by rw [hd]; exact hr) ev w h1 h2).mono fun e w' h => ?_
      obtain ⟨N, rfl, _, _, hb⟩ := h
      exact ⟨_, by rw [hd], fun h => (by cases h), fun _ => ⟨_, _, rfl⟩, hb⟩
  | _ =>
    refine ⟨0, false, ⟨by omega, by omega⟩, fun n hn e => ?_, fun w hL => ?_⟩
    · rw [e, parse_dec 64 n (by decide) (by show n ≤ 18446744073709551615; omega) (by show n < 9223372036854775808; omega)] at hr
      cases hr
    · obtain ⟨ev, h1, h2⟩ := hL.syn
      refine (Any.strconv_ParseInt_10_at64_syntax Tryz.laysC174 (str t) (by rw [str_size]; omega) (by rw [hd]; exact hr) ev w h1 h2).mono fun e w' h => ?_
      obtain ⟨N, rfl, _, _, hb⟩ := h
      exact ⟨_, rfl, fun h => (by cases h), fun _ => ⟨_, _, rfl⟩, hb⟩
set_option maxHeartbeats 1000000 in
theorem c_small64 (t : List UInt8) (ht : t.length ≤ 1048576) : ∃ (v : Int) (ok : Bool), (-9223372036854775808 ≤ v ∧ v ≤ 9223372036854775807) ∧ (∀ n, n < 32768 → t = Lib.decDigits n → ok = true ∧ v = (n : Int)) ∧ ∀ w, Laid w →
    Calls Tryz.prog 63 #[.string (str t), .int .i64 64] w fun e w' => e = .returned (.tuple #[.int .i64 v, .bool ok]) ∧ Below w.heap.size w w' := by
  obtain ⟨v, ok, h1, h2, h3⟩ := c_parse64 t ht
  refine ⟨v, ok, h1, h2, fun w hL => ?_⟩
  have CP := Lib.hid (h3 w hL)
  clear hL h3 h2
  cases ok
  · go_enter Tryz.func63, Tryz.ntmps63
    go_wp2_with (go_at_call 82; ((with_reducible refine CP.out.mono ?_); rintro e w1 ⟨x, rfl, hx, hy, hb⟩; obtain ⟨ty, p, rfl⟩ := hy rfl; clear hx hy))
    go_quiet (fail)
    go_wp2
    exact bodyPost_ret (v := .tuple #[.int .i64 v, .bool false]) (by simp [results, Tryz.results63, go_sem]) rfl ⟨rfl, hb.trans (below_drewN (Below.refl _ _) _)⟩
  · go_enter Tryz.func63, Tryz.ntmps63
    go_wp2_with (go_at_call 82; ((with_reducible refine CP.out.mono ?_); rintro e w1 ⟨x, rfl, hx, hy, hb⟩; obtain rfl := hx rfl; clear hx hy))
    go_quiet (fail)
    go_wp2
    exact bodyPost_ret (v := .tuple #[.int .i64 v, .bool true]) (by simp [results, Tryz.results63, go_sem]) rfl ⟨rfl, hb.trans (below_drewN (Below.refl _ _) _)⟩
end Go.Proofs.YtjhifpidbobmaaaGreatDoor
