/- An array of five pairs, indexed by a number (chapter 16). -/
import Derived.Test.YthafjgaleonbgaaProbeAsk
import Derived.Laws.EntriesVeiled
namespace Go.Proofs.Ythafjgaleonbgaa.Probe
open Go.RowKit
theorem index_0 (a0 a1 a2 a3 a4 a5 a6 a7 a8 a9 : Value) (w : World) : (Instr.index 88 (.agg #[a0, a1, a2, a3, a4, a5, a6, a7, a8, a9]) (.int .i64 0)).run Try.prog w = .ok (.agg #[a0, a1]) w := by
  simp [Instr.index, run_underlying Try.underlying88, asIntOf, go_sem]
theorem index_1 (a0 a1 a2 a3 a4 a5 a6 a7 a8 a9 : Value) (w : World) : (Instr.index 88 (.agg #[a0, a1, a2, a3, a4, a5, a6, a7, a8, a9]) (.int .i64 1)).run Try.prog w = .ok (.agg #[a2, a3]) w := by
  simp [Instr.index, run_underlying Try.underlying88, asIntOf, go_sem]
theorem index_2 (a0 a1 a2 a3 a4 a5 a6 a7 a8 a9 : Value) (w : World) : (Instr.index 88 (.agg #[a0, a1, a2, a3, a4, a5, a6, a7, a8, a9]) (.int .i64 2)).run Try.prog w = .ok (.agg #[a4, a5]) w := by
  simp [Instr.index, run_underlying Try.underlying88, asIntOf, go_sem]
theorem index_3 (a0 a1 a2 a3 a4 a5 a6 a7 a8 a9 : Value) (w : World) : (Instr.index 88 (.agg #[a0, a1, a2, a3, a4, a5, a6, a7, a8, a9]) (.int .i64 3)).run Try.prog w = .ok (.agg #[a6, a7]) w := by
  simp [Instr.index, run_underlying Try.underlying88, asIntOf, go_sem]
theorem index_4 (a0 a1 a2 a3 a4 a5 a6 a7 a8 a9 : Value) (w : World) : (Instr.index 88 (.agg #[a0, a1, a2, a3, a4, a5, a6, a7, a8, a9]) (.int .i64 4)).run Try.prog w = .ok (.agg #[a8, a9]) w := by
  simp [Instr.index, run_underlying Try.underlying88, asIntOf, go_sem]
end Go.Proofs.Ythafjgaleonbgaa.Probe
