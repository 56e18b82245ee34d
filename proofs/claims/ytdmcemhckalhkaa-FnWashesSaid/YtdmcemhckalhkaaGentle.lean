/- The programs by which a cloth does not felt. -/
import Derived.Test.YtdmcemhckalhkaaAsked
namespace Go.Proofs.Ytdmcemhckalhkaa
open Go.RowKit
set_option linter.unusedVariables false
set_option linter.unusedSimpArgs false
set_option maxRecDepth 100000

def gentL (d e : Int) (p q : Nat → Int) : Nat → List Int
  | 0 => []
  | k + 1 => if feltsV d e (p k) (q k) = 0 then gentL d e p q k ++ [(k : Int)] else gentL d e p q k
theorem gentL_len (d e : Int) (p q : Nat → Int) : ∀ k, (gentL d e p q k).length ≤ k
  | 0 => Nat.le_refl _
  | k + 1 => by
    have := gentL_len d e p q k
    unfold gentL
    split
    · rw [List.length_append, List.length_singleton]; omega
    · omega
def gentleF (a b c d e : Int) (n : Nat) (p q r : Nat → Int) : List Int × Int := if askedF a b c d e n p q r = 0 then (gentL d e p q n, 0) else ([], askedF a b c d e n p q r)
theorem gentleF_le (a b c d e : Int) (n : Nat) (p q r : Nat → Int) : (gentleF a b c d e n p q r).1.length ≤ n := by
  unfold gentleF
  split
  · exact gentL_len d e p q n
  · simp
theorem askedF_ok {a b c d e : Int} {n : Nat} {p q r : Nat → Int} (h : askedF a b c d e n p q r = 0) : okCloth a b c d e = true ∧ (∀ j, j < n → okProgram (p j) (q j) (r j) = true) ∧ n ≤ 6 := by
  unfold askedF at h
  split at h
  · rename_i h1
    simp only [Bool.and_eq_true] at h1
    split at h
    · exact ⟨h1.1, allB_get h1.2, by assumption⟩
    · omega
  · omega
theorem askedF_no {a b c d e : Int} {n : Nat} {p q r : Nat → Int} (h : ¬ askedF a b c d e n p q r = 0) : (askedF a b c d e n p q r != 0) = true := by simpa using h
theorem nums_snoc (k : IntKind) (l : List Int) (x : Int) : nums k (l ++ [x]) = nums k l ++ [.int k x] := by simp [nums]
theorem cloth_info (a b c d e : Int) : (Try.prog.info? 27).map (·.size) = some #[Value.int .i16 a, .int .i16 b, .int .i8 c, .int .i8 d, .int .i8 e].size := by
  have h : (Try.prog.info? 27).map (·.size) = some 5 := by kernel_rfl
  rw [h]; rfl
section
variable (a b c d e : Int) (n cap : Nat) (p q r : Nat → Int) (w : World)
set_option maxHeartbeats 1000000 in
theorem c_sGentleOnes (gb : Nat) (ha : -32768 ≤ a ∧ a ≤ 32767) (hb : -32768 ≤ b ∧ b ≤ 32767) (h : ProgsAt w (some ⟨gb, 0, none⟩) n p q r) (hn : n ≤ 1048576) :
    Calls Try.prog 17 #[.agg #[.int .i16 a, .int .i16 b, .int .i8 c, .int .i8 d, .int .i8 e], .slice (some ⟨gb, 0, none⟩) n cap] w fun u w' => ∃ v, u = .returned (.tuple #[v, .int .i64 (gentleF a b c d e n p q r).2]) ∧ w'.ownsRow w.heap.size 2 1 v (gentleF a b c d e n p q r).1.length (nums .i64 (gentleF a b c d e n p q r).1) ∧ Below w.heap.size w w' := by
  have HB0 : Hid (Below w.heap.size w (w.alloc (.cells #[.int .i16 a, .int .i16 b, .int .i8 c, .int .i8 d, .int .i8 e] 27 (0, 0)))) := below_alloc (Below.refl _ _) _
  have HC := Lib.hid (clothAt_row (heap_alloc_new w (.cells #[.int .i16 a, .int .i16 b, .int .i8 c, .int .i8 d, .int .i8 e] 27 (0, 0))))
  have H0 := Lib.hid h
  have H := Lib.hid (h.below HB0.out)
  have ca := c_l06Asked w.heap.size gb a b c d e n cap p q r _ HC.out ha hb H.out hn
  by_cases hz : askedF a b c d e n p q r = 0
  · obtain ⟨o1, o2, h6⟩ := askedF_ok hz
    have E : Hid (gentleF a b c d e n p q r = (gentL d e p q n, 0)) := by rw [Hid, gentleF, if_pos hz]
    rw [hz] at ca
    have CA := Lib.hid ca
    obtain ⟨_, _, _, hd, he⟩ := okCloth_all o1
    have HD := Lib.hid hd
    have HEe := Lib.hid he
    have HOK : Hid (∀ j, j < n → (0 ≤ p j ∧ p j ≤ 9) ∧ (0 ≤ q j ∧ q j ≤ 9) ∧ (0 ≤ r j ∧ r j ≤ 9)) := fun j hj => okProgram_all (o2 j hj)
    clear ca h hz o1 o2 hd he
    have ho := World.ownsRow_made (base := w.heap.size + 1) (e := 2) (size := 1) (w.alloc (.cells #[.int .i16 a, .int .i16 b, .int .i8 c, .int .i8 d, .int .i8 e] 27 (0, 0))) #[] 0 (by simp) (by decide) rfl
    rw [World.size_alloc] at ho
    have HO := Lib.hid ho
    have HB1 := Lib.hid (below_alloc HB0.out (.cells #[] 2 (0, 0)))
    have HC1 := Lib.hid (blk_alloc (heap_alloc_new w (.cells #[.int .i16 a, .int .i16 b, .int .i8 c, .int .i8 d, .int .i8 e] 27 (0, 0))) (.cells #[] 2 (0, 0)))
    clear ho
    go_enter Try.func17, Try.ntmps17
    go_wp2_with (go_at_call 37; ((with_reducible refine CA.out.mono ?_); rintro u w1 ⟨rfl, rfl⟩))
    go_loopw [8, 7] (fun i v wr => ∃ k : Nat, k ≤ n ∧ i = .int .i64 k ∧ Hid (wr.ownsRow (w.heap.size + 1) 2 1 v (gentL d e p q k).length (nums .i64 (gentL d e p q k))) ∧ Hid (wr.heap[w.heap.size]? = some (.cells #[.int .i16 a, .int .i16 b, .int .i8 c, .int .i8 d, .int .i8 e] 27 (0, 0))) ∧ Hid (Below w.heap.size w wr)) (fun i _ _ => n - (intOf i).toNat)
    case atStart => exact ⟨0, by omega, rfl, HO, HC1, HB1⟩
    case round =>
      obtain ⟨k, hk, rfl, hO, hC, hB⟩ := hrel
      have hz1 := blk_lt hC.out
      by_cases hlt : k < n
      · have d1 : decide ((k : Int) < (n : Int)) = true := by simp; omega
        have k0 : (0 : Int) ≤ (k : Int) := by omega
        have k1 : (k : Int) < (n : Int) := by omega
        obtain ⟨op, oq, _⟩ := HOK.out k hlt
        have CF := Lib.hid (c_l06Felts w.heap.size 0 gb (k * 3) a b c d e (p k) (q k) (r k) wr (clothAt_row hC.out) (progAt_of (H0.out.below hB.out) hlt) HD.out HEe.out op oq)
        have hz := hB.out.size
        have hlen := gentL_len d e p q k
        by_cases hf : feltsV d e (p k) (q k) = 0
        · have HG : Hid (gentL d e p q (k + 1) = gentL d e p q k ++ [(k : Int)]) := by rw [Hid, gentL, if_pos hf]
          rw [hf] at CF
          clear op oq hf
          go_wp2_with (first
            | (go_at_call 50; ((with_reducible refine CF.out.mono ?_); rintro u w1 ⟨rfl, m, rfl⟩))
            | (at_builtin; refine ap1 rfl (.tmp 27) (.tmp 29) 32 2 rfl (.int .i64 0) 1 8 (w.heap.size + 1) Try.underlying32 (by kernel_rfl) rfl (by decide) u7 (gentL d e p q k).length (nums .i64 (gentL d e p q k)) [.int .i64 (k : Int)] rfl rfl (by simp) rfl rfl (show (wr.drewN m).ownsRow _ _ _ _ _ _ from hO.out) hz1 (by omega) (by omega) ?_; intro g3 d3 w5 hown hg3 hat; have hB5 := Lib.hid (below_grown (below_drewN hB.out m) hg3 (show (wr.drewN m).ownsRow _ _ _ _ _ _ from hO.out) (by omega) hz); have hC5 := Lib.hid (blk_grown (show (wr.drewN m).heap[w.heap.size]? = _ from hC.out) hg3 (show (wr.drewN m).ownsRow _ _ _ _ _ _ from hO.out) (by omega)); have hO5 := Lib.hid hown; clear hown hat))
          go_roundw
          case rel => exact ⟨k + 1, by omega, by go_num, by rw [HG.out, List.length_append, nums_snoc]; exact hO5, hC5, hB5⟩
          case measure => simp [intOf]; omega
        · have de : (feltsV d e (p k) (q k) == 0) = false := by simpa using hf
          have HG : Hid (gentL d e p q (k + 1) = gentL d e p q k) := by rw [Hid, gentL, if_neg hf]
          clear op oq
          go_wp2_with (go_at_call 50; ((with_reducible refine CF.out.mono ?_); rintro u w1 ⟨rfl, m, rfl⟩))
          go_roundw
          case rel => exact ⟨k + 1, by omega, by go_num, by rw [HG.out]; exact hO, hC, below_drewN hB.out _⟩
          case measure => simp [intOf]; omega
      · obtain rfl : k = n := by omega
        have d1 : decide ((k : Int) < (k : Int)) = false := by simp
        go_wp2
        exact bodyPost_ret (v := .tuple #[u7, .int .i64 0]) (by simp [results, Try.results17, go_sem]) rfl ⟨_, by rw [E.out], by rw [E.out]; exact own_mono hO.out (by omega), hB.out⟩
  · have dz := askedF_no hz
    have E : Hid (gentleF a b c d e n p q r = ([], askedF a b c d e n p q r)) := by rw [Hid, gentleF, if_neg hz]
    have CA := Lib.hid ca
    have ho := heap_alloc_new (w.alloc (.cells #[.int .i16 a, .int .i16 b, .int .i8 c, .int .i8 d, .int .i8 e] 27 (0, 0))) (.cells #[] 2 (0, 0))
    rw [World.size_alloc] at ho
    have HO := Lib.hid ho
    clear ca h ho
    go_enter Try.func17, Try.ntmps17
    go_wp2_with (go_at_call 37; ((with_reducible refine CA.out.mono ?_); rintro u w1 ⟨rfl, rfl⟩))
    exact bodyPost_ret (v := .tuple #[.slice (some ⟨w.heap.size + 1, 0, none⟩) 0 0, .int .i64 (askedF a b c d e n p q r)]) (by simp [results, Try.results17, go_sem]) rfl ⟨_, by rw [E.out], by rw [E.out]; exact own_empty HO.out (by omega), by (repeat (first | with_reducible exact Below.refl _ _ | with_reducible refine below_alloc ?_ _ | with_reducible refine below_drew ?_ | with_reducible refine below_drewN ?_ _ | with_reducible refine below_then ?_ (by assumption)))⟩
set_option maxHeartbeats 1000000 in
theorem c_iGentleOnes (A : Option Addr) (ha : -32768 ≤ a ∧ a ≤ 32767) (hb : -32768 ≤ b ∧ b ≤ 32767) (h : ProgsAt w A n p q r) (hn : n ≤ 1048576) (hg : ∀ j, j < n → (-128 ≤ r j ∧ r j ≤ 127) ∧ (-128 ≤ p j ∧ p j ≤ 127) ∧ (-128 ≤ q j ∧ q j ≤ 127)) :
    Calls Try.prog 16 #[.agg #[.int .i16 a, .int .i16 b, .int .i8 c, .int .i8 d, .int .i8 e], .slice A n cap] w fun u w' => ∃ v, u = .returned (.tuple #[v, .int .i64 (gentleF a b c d e n p q r).2]) ∧ w'.ownsRow w.heap.size 2 1 v (gentleF a b c d e n p q r).1.length (nums .i64 (gentleF a b c d e n p q r).1) ∧ Below w.heap.size w w' := by
  have HB0 : Hid (Below w.heap.size w (w.alloc (.cells #[.int .i16 a, .int .i16 b, .int .i8 c, .int .i8 d, .int .i8 e] 27 (0, 0)))) := below_alloc (Below.refl _ _) _
  have HC := Lib.hid (heap_alloc_new w (.cells #[.int .i16 a, .int .i16 b, .int .i8 c, .int .i8 d, .int .i8 e] 27 (0, 0)))
  have HI := Lib.hid (cloth_info a b c d e)
  have H0 := Lib.hid h
  have H := Lib.hid (h.below HB0.out)
  have ca := fun w h => c_washCode A a b c d e n cap p q r w ha hb h hn hg
  by_cases hz : askedF a b c d e n p q r = 0
  · obtain ⟨o1, o2, h6⟩ := askedF_ok hz
    have E : Hid (gentleF a b c d e n p q r = (gentL d e p q n, 0)) := by rw [Hid, gentleF, if_pos hz]
    rw [hz] at ca
    have CA := fun w h => Lib.hid (ca w h)
    obtain ⟨_, _, _, hd, he⟩ := okCloth_all o1
    have HD := Lib.hid hd
    have HEe := Lib.hid he
    have HOK : Hid (∀ j, j < n → (0 ≤ p j ∧ p j ≤ 9) ∧ (0 ≤ q j ∧ q j ≤ 9) ∧ (0 ≤ r j ∧ r j ≤ 9)) := fun j hj => okProgram_all (o2 j hj)
    clear ca h hz o1 o2 hd he hg
    go_enter Try.func16, Try.ntmps16
    go_wp2_with (first
      | (refine wpList_load_row rfl 27 (.tmp 2) rfl (w.heap.size) rfl 27 #[.int .i16 a, .int .i16 b, .int .i8 c, .int .i8 d, .int .i8 e] (0, 0) _ ?_ Try.underlying27 rfl HI.out ?_; (with_reducible exact HC.out))
      | (go_at_call 31; ((with_reducible refine (CA _ H.out).out.mono ?_); rintro u w1 ⟨rfl, hb⟩; have HC := Lib.hid (blk_below HC.out hb); have HB1 := Lib.hid (below_then HB0.out hb); clear hb)))
    go_loopw [18, 7] (fun i v wr => ∃ k : Nat, k ≤ n ∧ i = .int .i64 k ∧ Hid (wr.ownsRow (w.heap.size + 1) 2 1 v (gentL d e p q k).length (nums .i64 (gentL d e p q k))) ∧ Hid (wr.heap[w.heap.size]? = some (.cells #[.int .i16 a, .int .i16 b, .int .i8 c, .int .i8 d, .int .i8 e] 27 (0, 0))) ∧ Hid (Below w.heap.size w wr)) (fun i _ _ => n - (intOf i).toNat)
    case atStart => exact ⟨0, by omega, rfl, own_nil _ _ _ _, HC, HB1⟩
    case round =>
      obtain ⟨k, hk, rfl, hO, hC, hB⟩ := hrel
      by_cases hlt : k < n
      · have d1 : decide ((k : Int) < (n : Int)) = true := by simp; omega
        have k0 : (0 : Int) ≤ (k : Int) := by omega
        have k1 : (k : Int) < (n : Int) := by omega
        obtain ⟨op, oq, _⟩ := HOK.out k hlt
        obtain ⟨ad, hAd, c0, c1, c2⟩ := (H0.out.below hB.out).at_ k hlt
        subst hAd
        have cf := fun w => c_felts a b c d e (p k) (q k) (r k) w HD.out HEe.out op oq
        have hz := hB.out.size
        have hlen := gentL_len d e p q k
        have hz1 := blk_lt hC.out
        by_cases hf : feltsV d e (p k) (q k) = 0
        · have HG : Hid (gentL d e p q (k + 1) = gentL d e p q k ++ [(k : Int)]) := by rw [Hid, gentL, if_pos hf]
          rw [hf] at cf
          have CF := fun w => Lib.hid (cf w)
          clear op oq hf cf
          go_wp2_with (first
            | (refine wpList_load_row rfl 27 (.tmp 2) rfl (w.heap.size) rfl 27 #[.int .i16 a, .int .i16 b, .int .i8 c, .int .i8 d, .int .i8 e] (0, 0) _ ?_ Try.underlying27 rfl HI.out ?_; (exact blk_alloc hC.out _))
            | (go_at_call 49; ((with_reducible refine (CF _).out.mono ?_); rintro u w1 ⟨rfl, hb⟩; have hC1 := Lib.hid (blk_below (blk_alloc hC.out _) hb); have hO1 := Lib.hid (own_below (hO.out.alloc _) hb); have hB1 := Lib.hid (Below.trans (hB.out.alloc hz _) (hb.mono (by simp; omega))); have hz2 := blk_lt hC1.out; clear hb))
            | (at_builtin; refine ap1 rfl (.tmp 27) (.tmp 29) 32 2 rfl (.int .i64 0) 1 8 (w.heap.size + 1) Try.underlying32 (by kernel_rfl) rfl (by decide) u7 (gentL d e p q k).length (nums .i64 (gentL d e p q k)) [.int .i64 (k : Int)] rfl rfl (by simp) rfl rfl hO1.out (by omega) (by omega) (by omega) ?_; intro g3 d3 w5 hown hg3 hat; have hB5 := Lib.hid (below_grown hB1.out hg3 hO1.out (by omega) (by omega)); have hC5 := Lib.hid (blk_grown hC1.out hg3 hO1.out (by omega)); have hO5 := Lib.hid hown; clear hown hat))
          go_roundw
          case rel => exact ⟨k + 1, by omega, by go_num, by rw [HG.out, List.length_append, nums_snoc]; exact hO5, hC5, hB5⟩
          case measure => simp [intOf]; omega
        · have de : (feltsV d e (p k) (q k) == 0) = false := by simpa using hf
          have HG : Hid (gentL d e p q (k + 1) = gentL d e p q k) := by rw [Hid, gentL, if_neg hf]
          have CF := fun w => Lib.hid (cf w)
          clear op oq cf
          go_wp2_with (first
            | (refine wpList_load_row rfl 27 (.tmp 2) rfl (w.heap.size) rfl 27 #[.int .i16 a, .int .i16 b, .int .i8 c, .int .i8 d, .int .i8 e] (0, 0) _ ?_ Try.underlying27 rfl HI.out ?_; (exact blk_alloc hC.out _))
            | (go_at_call 49; ((with_reducible refine (CF _).out.mono ?_); rintro u w1 ⟨rfl, hb⟩; have hC1 := Lib.hid (blk_below (blk_alloc hC.out _) hb); have hO1 := Lib.hid (own_below (hO.out.alloc _) hb); have hB1 := Lib.hid (Below.trans (hB.out.alloc hz _) (hb.mono (by simp; omega))); clear hb)))
          go_roundw
          case rel => exact ⟨k + 1, by omega, by go_num, by rw [HG.out]; exact hO1, hC1, hB1⟩
          case measure => simp [intOf]; omega
      · obtain rfl : k = n := by omega
        have d1 : decide ((k : Int) < (k : Int)) = false := by simp
        go_wp2
        exact bodyPost_ret (v := .tuple #[u7, .int .i64 0]) (by simp [results, Try.results16, go_sem]) rfl ⟨_, by rw [E.out], by rw [E.out]; exact own_mono hO.out (by omega), hB.out⟩
  · have dz := askedF_no hz
    have E : Hid (gentleF a b c d e n p q r = ([], askedF a b c d e n p q r)) := by rw [Hid, gentleF, if_neg hz]
    have CA := fun w h => Lib.hid (ca w h)
    clear ca h hg
    go_enter Try.func16, Try.ntmps16
    go_wp2_with (first
      | (refine wpList_load_row rfl 27 (.tmp 2) rfl (w.heap.size) rfl 27 #[.int .i16 a, .int .i16 b, .int .i8 c, .int .i8 d, .int .i8 e] (0, 0) _ ?_ Try.underlying27 rfl HI.out ?_; (with_reducible exact HC.out))
      | (go_at_call 31; ((with_reducible refine (CA _ H.out).out.mono ?_); rintro u w1 ⟨rfl, hb⟩)))
    exact bodyPost_ret (v := .tuple #[.slice none 0 0, .int .i64 (askedF a b c d e n p q r)]) (by simp [results, Try.results16, go_sem]) rfl ⟨_, by rw [E.out], by rw [E.out]; exact own_nil _ _ _ _, below_then HB0.out hb⟩
end
end Go.Proofs.Ytdmcemhckalhkaa
