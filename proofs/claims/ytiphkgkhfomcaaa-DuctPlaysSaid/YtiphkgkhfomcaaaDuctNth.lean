import Derived.Test.YtiphkgkhfomcaaaDuctNil
import Derived.BigQuiet
set_option linter.unusedSimpArgs false
set_option linter.unusedVariables false
attribute [local go_sem ↓] Go.wp_at_zero Go.wp_at_succ
namespace Go.Proofs.Ytiphkgkhfomcaaa.Duct
open Go.BigFrame Go.RowKit Go.OpenShut Go.Proofs.Ytiphkgkhfomcaaa.Aid Go.Proofs.Ytiphkgkhfomcaaa.DMap Go.Proofs.Ytiphkgkhfomcaaa.Byt
set_option maxRecDepth 100000 in
set_option maxHeartbeats 4000000 in
theorem nth_nil (n : Int) (w : World) : Calls Try.prog 38 #[.pointer Option.none, .int .i64 n] w (Gives w (.tuple #[.agg #[.int .i64 0, .int .i64 0, .int .i64 0, nilS], .bool false])) := by
  by_cases h : n < 0
  · go_enter Try.func38, Try.ntmps38
    go_upto_region 1 with fail
    refine wp_region_quiet_lit (by kernel_rfl) (by kernel_rfl) ?_
    repeat (go_big_quiet_step (fail))
    refine wpQuiet_nil ?_
    rintro _ ⟨nq, rfl⟩
    go_wp2
    refine bodyPost_ret (v := .tuple #[.agg #[.int .i64 0, .int .i64 0, .int .i64 0, nilS], .bool false]) (by simp [results, Try.results38, go_sem, nilS]; done) rfl ⟨rfl, ?_⟩
    have hB := below_drewN' ((((Below.refl _ w).alloc (Nat.le_refl _) (.cells #[.int .i64 n] 3)).alloc (by simp only [World.size_alloc]; omega) (.cells #[.int .i64 0, .int .i64 0, .int .i64 0, .slice Option.none 0 0] 82)).alloc (by simp only [World.size_alloc]; omega) (.cells #[.bool false] 4)) nq
    exact ((((hB.setCell (by simp) _).setCell (by simp) _).setCell (by simp) _).setCell (by simp) _).setCell (by simp only; omega) _
  · have h2 : 0 ≤ n := by omega
    go_enter Try.func38, Try.ntmps38
    go_upto_region 1 with fail
    refine wp_region_quiet_lit (by kernel_rfl) (by kernel_rfl) ?_
    repeat (go_big_quiet_step (exact (len_none _).mono fun e w' ⟨a, b⟩ => ⟨a, _, b.symm⟩))
    refine wpQuiet_nil ?_
    rintro _ ⟨nq, rfl⟩
    go_wp2
    refine bodyPost_ret (v := .tuple #[.agg #[.int .i64 0, .int .i64 0, .int .i64 0, nilS], .bool false]) (by simp [results, Try.results38, go_sem, nilS]; done) rfl ⟨rfl, ?_⟩
    have hB := below_drewN' ((((Below.refl _ w).alloc (Nat.le_refl _) (.cells #[.int .i64 n] 3)).alloc (by simp only [World.size_alloc]; omega) (.cells #[.int .i64 0, .int .i64 0, .int .i64 0, .slice Option.none 0 0] 82)).alloc (by simp only [World.size_alloc]; omega) (.cells #[.bool false] 4)) nq
    exact ((((hB.setCell (by simp) _).setCell (by simp) _).setCell (by simp) _).setCell (by simp) _).setCell (by simp only; omega) _
end Go.Proofs.Ytiphkgkhfomcaaa.Duct
