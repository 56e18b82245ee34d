/- All spots, by the program. -/
import Derived.Test.YtcbegcekdmmjpaaSpotsSpec
namespace Go.Proofs.Ytcbegcekdmmjpaa
open Go.RowKit
set_option linter.unusedVariables false
set_option linter.unusedSimpArgs false
set_option maxRecDepth 100000

/-- What the closure knows: the holes left at gl, all holes at gh, the variable out at go, and its row. -/
structure St8 (hs : List Int) (B gl gh go base : Nat) (w0 : World) (n : Nat) (v : Value) (w : World) : Prop where
  hL : w.heap[gl]? = some (.cells (nums .u8 (spotsN hs n).2).toArray 25 (0, 0))
  hH : w.heap[gh]? = some (.cells (nums .u8 hs).toArray 25 (0, 0))
  hV : w.heap[go]? = some (.cells #[v] 33 (0, 0))
  hO : w.ownsRow base 25 8 v (spotsN hs n).1.length (rows8 (spotsN hs n).1)
  hB : Below B w0 w
def InvS (hs : List Int) (B gl gh go base : Nat) (w0 : World) (n : Nat) (w : World) : Prop := ∃ v, St8 hs B gl gh go base w0 n v w

set_option maxHeartbeats 4000000 in
theorem c_spots1 (hs : List Int) (h8 : Holes8 hs) (B gl gh go base : Nat) (w0 : World) (b1 : B ≤ gl) (b2 : B ≤ go) (l1 : gl < base) (l2 : gh < base) (l3 : go < base) (n1 : gl ≠ gh) (n2 : gl ≠ go) (n3 : gh ≠ go) (k j : Nat) (w1 : World) (hk : k < 8) (hj : j < 8)
    (hI : InvS hs B gl gh go base w0 (8 * k + j) w1) (hbz : base ≤ w1.heap.size) :
    Calls Try.prog 48 (#[.int .i64 j, .int .i64 k] ++ #[.pointer (some ⟨gl, 0, none⟩), .pointer (some ⟨gh, 0, none⟩), .pointer (some ⟨go, 0, none⟩)]) w1 fun e w2 => e = .returned (.tuple #[]) ∧ InvS hs B gl gh go base w0 (8 * k + j + 1) w2 ∧ base ≤ w2.heap.size := by
  obtain ⟨v, hI⟩ := hI
  have hA := Lib.hid hI.hL
  have hH := Lib.hid hI.hH
  have hV := Lib.hid hI.hV
  have hO := Lib.hid hI.hO
  have hB := Lib.hid hI.hB
  have HW := Lib.hid (spotsN_whole h8 (8 * k + j))
  have HS := Lib.hid (spotsN_at hs k j hj)
  have hlen := spotsN_len hs (8 * k + j)
  have HI := Lib.hid (holes_info HW.out.h8.len)
  have HIH := Lib.hid (holes_info h8.len)
  have ch := fun w => c_has (spotsN hs (8 * k + j)).2 (j : Int) (k : Int) w HW.out.h8
  show Calls Try.prog 48 #[.int .i64 j, .int .i64 k, .pointer (some ⟨gl, 0, none⟩), .pointer (some ⟨gh, 0, none⟩), .pointer (some ⟨go, 0, none⟩)] w1 _
  cases q : hole (spotsN hs (8 * k + j)).2 (j : Int) (k : Int)
  · have E : Hid (spotsN hs (8 * k + j + 1) = spotsN hs (8 * k + j)) := by rw [Hid, HS.out, q]; rfl
    rw [q] at ch
    have CH := fun w => Lib.hid (ch w)
    clear q hlen ch hI
    go_enter Try.func48, Try.ntmps48
    go_wp2_with (first
      | (refine wpList_load_row rfl 25 (.tmp 2) rfl gl rfl 25 (nums .u8 (spotsN hs (8 * k + j)).2).toArray (0, 0) _ ?_ Try.underlying25 rfl HI.out ?_; (with_reducible exact hA.out))
      | (go_at_call 29; ((with_reducible refine (CH _).out.mono ?_); rintro e w2 ⟨rfl, hb⟩; have hbs := hb.size; have hA := Lib.hid (blk_below hA.out hb); have hH := Lib.hid (blk_below hH.out hb); have hV := Lib.hid (blk_below hV.out hb); have hO := Lib.hid (own_below hO.out hb); have hB := Lib.hid (hB.out.trans (hb.mono (Nat.le_trans b1 (Nat.le_trans (Nat.le_of_lt l1) hbz)))))))
    go_end0
    exact ⟨rfl, ⟨v, by rw [E.out]; exact hA.out, hH.out, hV.out, by rw [E.out]; exact hO.out, hB.out⟩, by omega⟩
  · have E : Hid (spotsN hs (8 * k + j + 1) = ((spotsN hs (8 * k + j)).1 ++ [spot hs (j : Int) (k : Int)], less (spotsN hs (8 * k + j)).2 (spot hs (j : Int) (k : Int)))) := by rw [Hid, HS.out, if_pos q]
    rw [q] at ch
    have CH := fun w => Lib.hid (ch w)
    have CS := fun w => Lib.hid (c_spot hs h8 j k hj hk w)
    have CL := fun w => Lib.hid (c_without (spotsN hs (8 * k + j)).2 (spot hs (j : Int) (k : Int)) HW.out.h8 (spot8 _ _ _) w)
    have LS := Lib.hid (spot8 hs (j : Int) (k : Int)).len
    have HIS := Lib.hid (holes_info LS.out)
    have LL := Lib.hid (less8 (spotsN hs (8 * k + j)).2 (spot hs (j : Int) (k : Int))).len
    have L0 := Lib.hid HW.out.h8.len
    have HIL := Lib.hid (holes_info LL.out)
    clear q ch HW HS hI
    generalize hsp : spot hs (j : Int) (k : Int) = sp at *
    generalize hL : less (spotsN hs (8 * k + j)).2 sp = L at *
    clear hsp hL
    have hBs : B ≤ w1.heap.size := Nat.le_trans b1 (Nat.le_trans (Nat.le_of_lt l1) hbz)
    go_enter Try.func48, Try.ntmps48
    go_wp2_with (first
      | (refine wpList_load_row rfl 25 (.tmp 2) rfl gl rfl 25 (nums .u8 (spotsN hs (8 * k + j)).2).toArray (0, 0) _ ?_ Try.underlying25 rfl HI.out ?_; (with_reducible exact hA.out))
      | (refine wpList_load_row rfl 25 (.tmp 3) rfl gh rfl 25 (nums .u8 hs).toArray (0, 0) _ ?_ Try.underlying25 rfl HIH.out ?_; (with_reducible exact hH.out))
      | (go_at_call 29; ((with_reducible refine (CH _).out.mono ?_); rintro e w2 ⟨rfl, hb⟩; have hA := Lib.hid (blk_below hA.out hb); have hH := Lib.hid (blk_below hH.out hb); have hV := Lib.hid (blk_below hV.out hb); have hO := Lib.hid (own_below hO.out hb); have hB := Lib.hid (hB.out.trans (hb.mono hBs)); have hBs := Nat.le_trans hBs hb.size; have hbz := Nat.le_trans hbz hb.size; clear hb))
      | (go_at_call 42; ((with_reducible refine (CS _).out.mono ?_); rintro e w3 ⟨rfl, hb⟩; have hA := Lib.hid (blk_below hA.out hb); have hH := Lib.hid (blk_below hH.out hb); have hV := Lib.hid (blk_below hV.out hb); have hO := Lib.hid (own_below hO.out hb); have hB := Lib.hid (hB.out.trans (hb.mono hBs)); have hBs := Nat.le_trans hBs hb.size; have hbz := Nat.le_trans hbz hb.size; clear hb))
      | (refine ev_store_row rfl 25 (.tmp 7) (.tmp 15) rfl (w3.heap.size) (nums .u8 sp).toArray rfl rfl 25 _ (heap_alloc_new w3 _) HIS.out (by simp [nums, LS.out]) (nums_one _ _) ?_; intro w4 hblk ht; have hb := tou_newS ht; clear ht; have hg7 : base ≤ w3.heap.size := hbz; have hv7 : v.ownBlock ≠ some w3.heap.size := fun he => Nat.lt_irrefl _ ((hO.out.lt _ he).2); have hA := Lib.hid (blk_below hA.out hb); have hH := Lib.hid (blk_below hH.out hb); have hV := Lib.hid (blk_below hV.out hb); have hO := Lib.hid (own_below hO.out hb); have hB := Lib.hid (hB.out.trans (hb.mono hBs)); have hBs := Nat.le_trans hBs hb.size; have hbz := Nat.le_trans hbz hb.size; have hS := Lib.hid hblk; have c4 := blk_cell hV.out 0; have f4 := blk_frozen hV.out 0; clear hblk hb)
      | (refine wpList_load_row rfl 25 (.tmp 7) rfl _ rfl 25 (nums .u8 sp).toArray (0, 0) _ ?_ Try.underlying25 rfl HIS.out ?_; (with_reducible exact hS.out))
      | (refine wpList_build1 rfl 33 25 (.tmp 17) rfl ((nums .u8 sp).toArray) 8 (.agg #[.int .u8 0, .int .u8 0, .int .u8 0, .int .u8 0, .int .u8 0, .int .u8 0, .int .u8 0, .int .u8 0]) rfl Try.underlying33 (by kernel_rfl) (by decide) (by decide) (by simp [nums, LS.out]) ?_)
      | (at_builtin; refine ap1 rfl (.tmp 16) (.tmp 18) 33 25 rfl ((.agg #[.int .u8 0, .int .u8 0, .int .u8 0, .int .u8 0, .int .u8 0, .int .u8 0, .int .u8 0, .int .u8 0])) 8 8 base Try.underlying33 (by kernel_rfl) rfl (by decide) v (spotsN hs (8 * k + j)).1.length (rows8 (spotsN hs (8 * k + j)).1) (nums .u8 sp) rfl rfl (by simp) (by simp [nums, LS.out]) (nums_oneL _ _) hO.out hbz (by omega) (by omega) ?_; intro g3 d3 w5 hown hg3 hat; have hS5 := (hg3.block _ (blk_lt hS.out) (fun he => hv7 he.symm)).trans hS.out; have hA5 := blk_grown hA.out hg3 hO.out l1; have hH5 := blk_grown hH.out hg3 hO.out l2; have hV5 := blk_grown hV.out hg3 hO.out l3; have hB5 := below_grown hB.out hg3 hO.out (Nat.le_trans b1 (Nat.le_of_lt l1)) hBs; have c4 := blk_cell hV5 0; have f4 := blk_frozen hV5 0; have hA : Hid ((w5.setCell ⟨go, 0, none⟩ (.slice (some ⟨g3, 0, none⟩) ((spotsN hs (8 * k + j)).1.length + 1) d3)).heap[gl]? = _) := blk_far hA5 n2 _ _; have hH : Hid ((w5.setCell ⟨go, 0, none⟩ (.slice (some ⟨g3, 0, none⟩) ((spotsN hs (8 * k + j)).1.length + 1) d3)).heap[gh]? = _) := blk_far hH5 n3 _ _; have hVn : (w5.setCell ⟨go, 0, none⟩ (.slice (some ⟨g3, 0, none⟩) ((spotsN hs (8 * k + j)).1.length + 1) d3)).heap[go]? = some (.cells #[(.slice (some ⟨g3, 0, none⟩) ((spotsN hs (8 * k + j)).1.length + 1) d3)] 33 (0, 0)) := (by simpa using blk_set hV5 0 (.slice (some ⟨g3, 0, none⟩) ((spotsN hs (8 * k + j)).1.length + 1) d3)); have hV := Lib.hid hVn; clear hVn; have hO6 : Hid ((w5.setCell ⟨go, 0, none⟩ (.slice (some ⟨g3, 0, none⟩) ((spotsN hs (8 * k + j)).1.length + 1) d3)).ownsRow base 25 8 _ _ _) := own_tou hown (Tou.setCell _ _ _ _) l3; have hS : Hid ((w5.setCell ⟨go, 0, none⟩ (.slice (some ⟨g3, 0, none⟩) ((spotsN hs (8 * k + j)).1.length + 1) d3)).heap[_]? = _) := blk_far hS5 (Nat.ne_of_gt (Nat.lt_of_lt_of_le l3 hg7)) _ _; have hB : Hid (Below B w0 (w5.setCell ⟨go, 0, none⟩ (.slice (some ⟨g3, 0, none⟩) ((spotsN hs (8 * k + j)).1.length + 1) d3))) := hB5.setCell b2 _; have hz5 := Nat.le_trans hbz hg3.size; clear hown hat hS5 hA5 hH5 hV5 hB5)
      | (go_at_call 41; ((with_reducible refine (CL _).out.mono ?_); rintro e w6 ⟨rfl, hb⟩; have hbs : base ≤ w6.heap.size := (Nat.le_trans (by simpa using hz5) hb.size); have hA := Lib.hid (blk_below hA.out hb); have hH := Lib.hid (blk_below hH.out hb); have hV := Lib.hid (blk_below hV.out hb); have hO6 := Lib.hid (own_below hO6.out hb); have hB := Lib.hid (hB.out.trans (hb.mono (Nat.le_trans b1 (Nat.le_trans (Nat.le_of_lt l1) (by simpa using hz5))))); clear hb))
      | (refine ev_store_row rfl 25 (.tmp 2) (.tmp 22) rfl gl (nums .u8 L).toArray rfl rfl 25 (nums .u8 (spotsN hs (8 * k + j)).2).toArray ?_ HIL.out (by simp [nums, LL.out, L0.out]) (nums_one _ _) ?_; (with_reducible exact hA.out); intro w7 hblk ht; have hH7 := Lib.hid (blk_tou hH.out ht (Ne.symm n1)); have hV7 := Lib.hid (blk_tou hV.out ht (Ne.symm n2)); have hO7 := Lib.hid (own_tou hO6.out ht l1); have hB7 : Hid (Below B w0 w7) := hB.out.trans (ht.below b1); have hz7 : base ≤ w7.heap.size := (by rw [ht.size]; exact hbs); have hA7 := Lib.hid hblk; clear hblk ht))
    go_end0
    refine ⟨rfl, ⟨_, ?_, hH7.out, hV7.out, ?_, hB7.out⟩, hz7⟩
    · rw [E.out]; exact hA7.out
    · rw [E.out]
      simp only [List.length_append, List.length_singleton]
      rw [rows8_snoc]
      exact hO7.out
set_option maxHeartbeats 2000000 in
theorem c_spots (hs : List Int) (h8 : Holes8 hs) (w : World) :
    Calls Try.prog 37 #[.agg (nums .u8 hs).toArray] w fun e w' => ∃ v, e = .returned v ∧ w'.ownsRow w.heap.size 25 8 v (spotsN hs 64).1.length (rows8 (spotsN hs 64).1) ∧ Below w.heap.size w w' := by
  have he : ∀ args w, (callFunc 48 args).run Try.prog w = .ok (.enter 48 args) w := enters_of Try.func48 (by kernel_rfl) rfl
  have HE := Lib.hid he
  have H8 := Lib.hid h8
  have HI := Lib.hid (holes_info h8.len)
  have g0 := blk_alloc (heap_alloc_new w (.cells (nums .u8 hs).toArray 25 (0, 0))) (.cells #[.slice none 0 0] 33 (0, 0))
  have g1 := heap_alloc_new (w.alloc (.cells (nums .u8 hs).toArray 25 (0, 0))) (.cells #[.slice none 0 0] 33 (0, 0))
  rw [World.size_alloc] at g1
  have G0 := Lib.hid g0
  have G1 := Lib.hid g1
  have HB0 : Hid (Below w.heap.size w ((w.alloc (.cells (nums .u8 hs).toArray 25 (0, 0))).alloc (.cells #[.slice none 0 0] 33 (0, 0)))) := by show Below w.heap.size w _; (repeat (first | with_reducible exact Below.refl _ _ | with_reducible refine below_alloc ?_ _ | with_reducible refine below_drew ?_ | with_reducible refine below_drewN ?_ _ | with_reducible refine below_then ?_ (by assumption)))
  have hsz : ((w.alloc (.cells (nums .u8 hs).toArray 25 (0, 0))).alloc (.cells #[.slice none 0 0] 33 (0, 0))).heap.size = w.heap.size + 1 + 1 := by simp
  have CE := fun wq hq => Lib.hid (c_each 48 #[.pointer (some ⟨w.heap.size + 1 + 1, 0, none⟩), .pointer (some ⟨w.heap.size, 0, none⟩), .pointer (some ⟨w.heap.size + 1, 0, none⟩)] HE.out (fun n wq => InvS hs w.heap.size (w.heap.size + 1 + 1) w.heap.size (w.heap.size + 1) (w.heap.size + 1 + 1 + 1) w n wq ∧ w.heap.size + 1 + 1 + 1 ≤ wq.heap.size)
    (fun k j wq hk hj hI => c_spots1 hs H8.out w.heap.size (w.heap.size + 1 + 1) w.heap.size (w.heap.size + 1) (w.heap.size + 1 + 1 + 1) w (by omega) (by omega) (by omega) (by omega) (by omega) (by omega) (by omega) (by omega) k j wq hk hj hI.1 hI.2) wq hq)
  have HZ : Hid (spotsN hs 0 = ([], hs)) := rfl
  clear h8 he g0 g1
  go_enter Try.func37, Try.ntmps37
  go_wp2_with (first
    | (refine wpList_load_row rfl 25 (.tmp 1) rfl (w.heap.size) rfl 25 (nums .u8 hs).toArray (0, 0) _ ?_ Try.underlying25 rfl HI.out ?_; (with_reducible exact G0.out))
    | (refine ev_store_row rfl 25 (.tmp 4) (.tmp 5) rfl (w.heap.size + 1 + 1) (nums .u8 hs).toArray rfl rfl 25 #[.int .u8 0, .int .u8 0, .int .u8 0, .int .u8 0, .int .u8 0, .int .u8 0, .int .u8 0, .int .u8 0] (by have := heap_alloc_new ((w.alloc (.cells (nums .u8 hs).toArray 25 (0, 0))).alloc (.cells #[.slice none 0 0] 33 (0, 0))) (.cells #[.int .u8 0, .int .u8 0, .int .u8 0, .int .u8 0, .int .u8 0, .int .u8 0, .int .u8 0, .int .u8 0] 25 (0, 0)); rw [hsz] at this; exact this) HI.out (by simp [nums, H8.out.len]) (nums_one _ _) ?_; intro w2 hblk ht; have hA := Lib.hid hblk; have hH := Lib.hid (blk_tou (blk_alloc G0.out _) ht (by omega)); have hV := Lib.hid (blk_tou (blk_alloc G1.out _) ht (by omega)); have hB : Hid (Below w.heap.size w w2) := (below_alloc HB0.out _).trans (ht.below (by omega)); have hz2 : w.heap.size + 1 + 1 + 1 ≤ w2.heap.size := (by rw [ht.size]; simp); clear hblk ht)
    | (go_at_call 26; ((refine (CE _ ⟨⟨.slice none 0 0, ⟨hA.out, hH.out, hV.out, own_nil _ _ _ _, hB.out⟩⟩, hz2⟩).out.mono ?_); rintro e w3 ⟨rfl, ⟨v, hS⟩, hz3⟩; have HS := Lib.hid hS; have c5 := blk_cell hS.hV 0; clear hS)))
  exact bodyPost_ret (v := v) (by simp [results, Try.results37, go_sem]) rfl ⟨_, rfl, own_mono HS.out.hO (by omega), HS.out.hB⟩
end Go.Proofs.Ytcbegcekdmmjpaa
