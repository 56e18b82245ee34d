/- An argument that is a number and a slice of texts. -/
import Derived.Test.YtdcemmhfbfogdaaSplitWalk
import Derived.SliceStrings
import Derived.ChangeSame
namespace Go.Proofs.Ytdcemmhfbfogdaa
open Go.RowKit Go.ChangeShapes Go.WideShapes Go.ChangeAt
set_option linter.unusedVariables false
set_option linter.unusedSimpArgs false

theorem open_fabric {H : Type} {enc : TypeId × Value → H} {P : Program} {w : World} {base b0 : Nat} {spare : Nat → Bool} {held : Bool} {r : Reach} {t e : TypeId} {f0 f1 : Field} {v : Value} {d : DataW H} {ps : List MemPlace}
    (ht : P.underlying t = some (.struct #[f0, f1])) (h0 : P.underlying f0.type = some (.int .i16)) (h1 : P.underlying f1.type = some (.slice e)) (he : P.underlying e = some .string) (hce : P.cellsOf e = 1) (hc : P.cellsOf t = 2) (hc0 : P.cellsOf f0.type = 1) (hc1 : P.cellsOf f1.type = 1) (ho0 : f0.offset = 0) (ho1 : f1.offset = 1)
    (hv : Value.okWide P w r b0 t v) (h : DataW.Trod enc P w base spare held t v d ps) :
    ∃ (a : Int) (A : Option Addr) (cap : Nat) (L : List (List UInt8)), v = .agg #[.int .i16 a, .slice A L.length cap] ∧ (Lit.int .i16 a).wf = true ∧ RdRow w A (strs L) ∧ (∀ l ∈ L, l.length ≤ maxLen) ∧ L.length ≤ maxLen := by
  obtain ⟨cs, rfl, hsz⟩ := okWide_struct ht hv
  obtain ⟨fuel, hf⟩ := h
  obtain ⟨y0, y1, n, _, hl, hy0, hy1⟩ := trod_struct2 ht hf
  have hcs : cs.toList = (Value.cells (.agg cs)).toList := rfl
  rw [hc0, ho0] at hy0
  rw [hc1, ho1] at hy1
  obtain ⟨a, ha, _, haw⟩ := DataW.trod_int h0 hy0
  rw [← hcs] at ha hy1
  have hl2 : cs.toList.length = 2 := by rw [Array.length_toList, hsz, hc]
  match hcl : cs.toList, hl2 with
  | [u, z], _ =>
    rw [hcl] at ha hy1
    simp only [List.drop_zero, List.take_succ_cons, List.take_zero, List.drop_succ_cons] at ha hy1
    injection ha with hu _
    subst hu
    have hcse : cs = #[.int .i16 a, z] := by
      apply Array.ext'
      rw [hcl]
    rcases open_strings h1 he hce hy1 with ⟨hz, _⟩ | ⟨ad, len, cap, ss, hz, _, hle, hcap, hss, _, hcell, hszs⟩
    · injection hz with hz _
      subst hz
      exact ⟨a, none, 0, [], by rw [hcse]; rfl, haw, fun j u hj => by simp [strs] at hj, by simp, by simp⟩
    · injection hz with hz _
      subst hz
      have hlen : len ≤ ss.length := by rw [hss]; split <;> omega
      have hL : ((ss.take len).map (·.data.toList)).length = len := by simp; omega
      refine ⟨a, some ad, cap, (ss.take len).map (·.data.toList), by rw [hcse, hL], haw, fun j u hj => ?_, fun l hl => ?_, by rw [hL]; omega⟩
      · refine ⟨ad, rfl, ?_⟩
        have hj2 := (List.getElem?_eq_some_iff.1 hj).1
        have hj3 : j < min len ss.length := by simpa [strs] using hj2
        have hjs : j < ss.length := by omega
        have hjl : j < len := by omega
        rw [hcell j hjs]
        have h5 : ss.getD j ByteArray.empty = ss[j] := by simp [List.getD_eq_getElem?_getD, hjs]
        rw [h5]
        have h6 : (strs ((ss.take len).map (·.data.toList)))[j]? = some (.string (str ss[j].data.toList)) := by
          simp only [strs, List.getElem?_map, List.getElem?_take, hjl, if_true, List.getElem?_eq_getElem hjs, Option.map_some]
        rw [h6] at hj
        rw [← hj]
        simp [str]
      · obtain ⟨s, hs, rfl⟩ := List.mem_map.1 hl
        rw [Array.length_toList]
        exact hszs s (List.mem_of_mem_take hs)
end Go.Proofs.Ytdcemmhfbfogdaa
