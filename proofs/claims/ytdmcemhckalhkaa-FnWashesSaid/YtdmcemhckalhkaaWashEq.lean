/- Cloths compared as wholes. -/
import Derived.Test.YtdmcemhckalhkaaWashAll
import Derived.Laws.StructEq
namespace Go.Proofs.Ytdmcemhckalhkaa
open Go.RowKit
set_option linter.unusedVariables false
set_option linter.unusedSimpArgs false

theorem eqCl (a b c d e : Int) (w : World) : (Op.equalIn 10000 27 (.agg #[.int .i16 a, .int .i16 b, .int .i8 c, .int .i8 d, .int .i8 e]) (.agg #[.int .i16 a, .int .i16 b, .int .i8 c, .int .i8 d, .int .i8 e])).run Try.prog w = .ok true w := by
  have hf : (Try.prog.fieldsOf 27).toList.map (fun f => (f.name, f.type, f.offset)) = [("Wide", 24, 0), ("High", 24, 1), ("Dirt", 25, 2), ("Felt", 25, 3), ("Bears", 25, 4)] := by kernel_rfl
  rw [run_equalIn_struct w 9999 27 _ _ (by kernel_rfl) (by kernel_rfl)]
  generalize (Try.prog.fieldsOf 27).toList = fs at *
  obtain ⟨f0, f1, f2, f3, f4, rfl⟩ : ∃ f0 f1 f2 f3 f4, fs = [f0, f1, f2, f3, f4] := by
    have hl : fs.length = 5 := by have := congrArg List.length hf; simpa using this
    match fs, hl with
    | [f0, f1, f2, f3, f4], _ => exact ⟨f0, f1, f2, f3, f4, rfl⟩
  simp only [List.map_cons, List.map_nil, List.cons.injEq, Prod.mk.injEq, and_true] at hf
  obtain ⟨⟨n0, t0, o0⟩, ⟨n1, t1, o1⟩, ⟨n2, t2, o2⟩, ⟨n3, t3, o3⟩, n4, t4, o4⟩ := hf
  simp [Op.eqFields, n0, t0, o0, n1, t1, o1, n2, t2, o2, n3, t3, o3, n4, t4, o4, part, go_sem, Try.underlying24, Try.underlying25, run_underlying Try.underlying24, run_underlying Try.underlying25]
end Go.Proofs.Ytdmcemhckalhkaa
