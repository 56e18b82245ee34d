/- The library's split at a byte is the reference's: plain lists. -/
import Derived.Test.YtdcemmhfbfogdaaDoorSplitWalk
import Derived.Test.YtdcemmhfbfogdaaDoorShelf
import Derived.Lib.SplitLaws
import Derived.Lib.CountLaws
namespace Go.Proofs.YtdcemmhfbfogdaaDoor
open Go.RowKit
set_option linter.unusedVariables false
set_option linter.unusedSimpArgs false

theorem index_mem (b : UInt8) : ∀ l : List UInt8, (Lib.index l [b] = -1 ∧ b ∉ l) ∨ ∃ j : Nat, Lib.index l [b] = j ∧ ∃ x r, l = x ++ b :: r ∧ b ∉ x ∧ x.length = j
  | [] => .inl ⟨by simp [Lib.index], by simp⟩
  | c :: l => by
    by_cases h : c = b
    · subst h
      exact .inr ⟨0, by rw [Lib.index]; simp [List.isPrefixOf], [], l, rfl, by simp, rfl⟩
    · have hp : ([b] : List UInt8).isPrefixOf (c :: l) = false := by simp [List.isPrefixOf, Ne.symm h]
      have hix : Lib.index (c :: l) [b] = if Lib.index l [b] == -1 then -1 else Lib.index l [b] + 1 := by rw [Lib.index, hp]; simp
      rcases index_mem b l with ⟨h1, h2⟩ | ⟨j, h1, x, r, h2, h3, h4⟩
      · exact .inl ⟨by rw [hix, h1]; rfl, by simp [Ne.symm h, h2]⟩
      · refine .inr ⟨j + 1, ?_, c :: x, r, by rw [h2]; rfl, by simp [Ne.symm h, h3], by simp [h4]⟩
        rw [hix, h1, if_neg (by simp)]
        omega
theorem splitL_none {b : UInt8} {l : List UInt8} (h : b ∉ l) : splitL b l = [l] := by
  have := splitS_of (by_ := b) (l := l) (d := []) (c := l) ⟨rfl, by simp, h⟩
  rw [splitL, this]
  rfl
theorem splitL_cons {b : UInt8} {x r : List UInt8} (h : b ∉ x) : splitL b (x ++ b :: r) = x :: splitL b r := by
  have hr := splitS_parts (by_ := b) r
  have := splitS_of (by_ := b) (l := x ++ b :: r) (d := x :: (splitS b r).1) (c := (splitS b r).2) ⟨by
    conv => lhs; rw [hr.eq]
    simp [joinD], by
    intro z hz
    rcases List.mem_cons.1 hz with rfl | hz
    · exact h
    · exact hr.d z hz, hr.c⟩
  rw [splitL, this]
  rfl
theorem splitK_is (b : UInt8) : ∀ (n : Nat) (l : List UInt8), l.length ≤ n → Lib.splitK [b] 0 (Lib.count l [b]) l = splitL b l
  | n, l, hn => by
    rcases index_mem b l with ⟨h1, h2⟩ | ⟨j, h1, x, r, h2, h3, h4⟩
    · rw [Lib.count_miss h1, splitL_none h2]
      rfl
    · have hc := Lib.count_hit (sub := [b]) (by simp) h1
      have e1 : l.drop (j + 1) = r := by rw [h2, ← h4]; simp
      have e2 : l.take j = x := by rw [h2, ← h4]; simp
      rw [hc, List.length_singleton, e1, Nat.add_comm 1, Lib.splitK, if_neg (by rw [h1]; simp), h1]
      simp only [Int.toNat_natCast, Nat.add_zero, List.length_singleton, e1, e2]
      cases n with
      | zero =>
        have : l = [] := List.eq_nil_of_length_eq_zero (by omega)
        subst this
        simp at h2
      | succ n =>
        rw [splitK_is b n r (by have := congrArg List.length h2; simp at this; omega)]
        conv => rhs; rw [h2]
        rw [splitL_cons h3]
theorem str_of_data (x : ByteArray) : str x.data.toList = x := by
  apply ByteArray.ext
  simp [str]
theorem splitB_strs (b : UInt8) (t : List UInt8) : (Lib.splitB ⟨#[b]⟩ 0 (Lib.countB (str t) ⟨#[b]⟩) (str t)).map Value.string = strs (splitL b t) := by
  have h := Lib.splitB_data ⟨#[b]⟩ 0 (Lib.countB (str t) ⟨#[b]⟩) (str t)
  have e : Lib.splitK (⟨#[b]⟩ : ByteArray).data.toList 0 (Lib.countB (str t) ⟨#[b]⟩) (str t).data.toList = splitL b t := splitK_is b t.length t (Nat.le_refl _)
  rw [e] at h
  rw [← h, strs, List.map_map]
  exact List.map_congr_left fun x _ => by show _ = Value.string (str x.data.toList); rw [str_of_data]
theorem splitB_num (b : UInt8) (t : List UInt8) : Lib.countB (str t) ⟨#[b]⟩ + 1 = (splitL b t).length := by
  have h := congrArg List.length (splitB_strs b t)
  rw [List.length_map, Lib.splitB_all ⟨#[b]⟩ (Nat.le_refl 1) 0 _ (str t) rfl] at h
  simpa [strs] using h
/-- strings.Split at a byte. -/
theorem c_Split (t : List UInt8) (b : UInt8) (m : Int) (w : World) (ht : t.length ≤ 1048576) (hm : w.cell? ⟨0, 0, none⟩ = some (.int .i64 m)) :
    Calls Tryd.prog 35 #[.string (str t), .string ⟨#[b]⟩] w fun e w' => e = .returned (.slice (some ⟨w.heap.size, 0, none⟩) (splitL b t).length (splitL b t).length) ∧ w' = w.alloc (.cells (strs (splitL b t)).toArray 9) := by
  have h := Tryd.strings_Split (str t) ⟨#[b]⟩ m w (by rw [str_size]; omega) hm (Nat.le_refl 1)
  rw [splitB_strs, splitB_num] at h
  exact h
end Go.Proofs.YtdcemmhfbfogdaaDoor
