/- Slices of holes: compared, marked, held; the answers of SpotsIn. -/
import Derived.Test.YtcbegcekdmmjpaaSpotsImpl
import Derived.Test.YtcbegcekdmmjpaaHolesEq
namespace Go.Proofs.Ytcbegcekdmmjpaa
open Go.RowKit
set_option linter.unusedVariables false
set_option linter.unusedSimpArgs false
set_option maxRecDepth 100000

def fU8 (k0 : Nat) (i : Nat) : Value := .int .u8 (IntKind.u8.wrap ((k0 : Int) + (i : Int)))
theorem rows8_get {L : List (List Int)} {k j : Nat} (hP : ∀ s ∈ L, Holes8 s) (hk : k < L.length) (hj : j < 8) : (rows8 L)[k * 8 + j]? = some (.int .u8 (gi (L.getD k []) j)) := by
  have h := flatten_get (sz := 8) (es := L.map (nums .u8)) (by intro c hc; obtain ⟨z, hz, rfl⟩ := List.mem_map.1 hc; rw [nums_length]; exact (hP z hz).len) k (by simpa using hk) j hj
  rw [rows8, List.flatMap_def, h]
  have e : L.getD k [] = L[k]'hk := by simp [List.getD, hk]
  rw [e]
  simp only [List.getElem?_map, List.getElem?_eq_getElem hk, Option.map_some, Option.getD_some]
  exact nums_get (by rw [(hP _ (List.getElem_mem hk)).len]; exact hj)
theorem rows8_get0 {L : List (List Int)} {k : Nat} (hP : ∀ s ∈ L, Holes8 s) (hk : k < L.length) : (rows8 L)[k * 8]? = some (.int .u8 (gi (L.getD k []) 0)) := rows8_get (j := 0) hP hk (by omega)
theorem c_sSpotsIn (hs : List Int) (h8 : Holes8 hs) (w : World) :
    Calls Try.prog 14 #[.agg (nums .u8 hs).toArray] w fun e w' => ∃ v, e = .returned (.tuple #[v, .int .i64 0]) ∧ w'.ownsRow w.heap.size 25 8 v (spotsN hs 64).1.length (rows8 (spotsN hs 64).1) ∧ Below w.heap.size w w' := by
  have HI := Lib.hid (holes_info h8.len)
  have HB0 : Hid (Below w.heap.size w (w.alloc (.cells (nums .u8 hs).toArray 25 (0, 0)))) := below_alloc (Below.refl _ _) _
  have HA := Lib.hid (heap_alloc_new w (.cells (nums .u8 hs).toArray 25 (0, 0)))
  have CS := fun w => Lib.hid (c_l06Spots hs h8 w)
  clear h8
  go_enter Try.func14, Try.ntmps14
  go_wp2_with (first
    | (refine wpList_load_row rfl 25 (.tmp 1) rfl (w.heap.size) rfl 25 (nums .u8 hs).toArray (0, 0) _ ?_ Try.underlying25 rfl HI.out ?_; (with_reducible exact HA.out))
    | (go_at_call 38; ((with_reducible refine (CS _).out.mono ?_); rintro e w1 ⟨v, rfl, hO, hb⟩)))
  exact bodyPost_ret (v := .tuple #[v, .int .i64 0]) (by simp [results, Try.results14, go_sem]) rfl ⟨_, rfl, own_mono hO HB0.out.size, below_then HB0.out hb⟩
theorem c_iSpotsIn (hs : List Int) (h8 : Holes8 hs) (w : World) :
    Calls Try.prog 13 #[.agg (nums .u8 hs).toArray] w fun e w' => ∃ v, e = .returned (.tuple #[v, .int .i64 0]) ∧ w'.ownsRow w.heap.size 25 8 v (spotsN hs 64).1.length (rows8 (spotsN hs 64).1) ∧ Below w.heap.size w w' := by
  have HI := Lib.hid (holes_info h8.len)
  have HB0 : Hid (Below w.heap.size w (w.alloc (.cells (nums .u8 hs).toArray 25 (0, 0)))) := below_alloc (Below.refl _ _) _
  have HA := Lib.hid (heap_alloc_new w (.cells (nums .u8 hs).toArray 25 (0, 0)))
  have CS := fun w => Lib.hid (c_spots hs h8 w)
  clear h8
  go_enter Try.func13, Try.ntmps13
  go_wp2_with (first
    | (refine wpList_load_row rfl 25 (.tmp 1) rfl (w.heap.size) rfl 25 (nums .u8 hs).toArray (0, 0) _ ?_ Try.underlying25 rfl HI.out ?_; (with_reducible exact HA.out))
    | (go_at_call 37; ((with_reducible refine (CS _).out.mono ?_); rintro e w1 ⟨v, rfl, hO, hb⟩)))
  exact bodyPost_ret (v := .tuple #[v, .int .i64 0]) (by simp [results, Try.results13, go_sem]) rfl ⟨_, rfl, own_mono hO HB0.out.size, below_then HB0.out hb⟩
end Go.Proofs.Ytcbegcekdmmjpaa
