/- Chapter 25 (duct): a duct that is none. -/
import Derived.Test.YtiphkgkhfomcaaaDuctKnown
import Derived.BigQuiet
set_option linter.unusedSimpArgs false
set_option linter.unusedVariables false
attribute [local go_sem ↓] Go.wp_at_zero Go.wp_at_succ
namespace Go.Proofs.Ytiphkgkhfomcaaa.Duct
open Go.BigFrame Go.RowKit Go.OpenShut Go.Proofs.Ytiphkgkhfomcaaa.Aid Go.Proofs.Ytiphkgkhfomcaaa.DMap Go.Proofs.Ytiphkgkhfomcaaa.Byt
theorem put_nil (rv : Value) (now : Int) (w : World) : Calls Try.prog 27 #[.pointer Option.none, rv, .int .i64 now] w (Same w (.tuple #[.int .i64 0, .int .i64 1])) := by
  go_enter Try.func27, Try.ntmps27
  go_wp2_with (go_at_call 50; refine (ask_none _ _).mono ?_; rintro e w1 ⟨rfl, rfl⟩)
  go_ret2
  exact ⟨rfl, rfl⟩
theorem double_nil (id now : Int) (w : World) : Calls Try.prog 34 #[.pointer Option.none, .int .i64 id, .int .i64 now] w (Same w (.tuple #[.int .i64 0, .int .i64 1])) := by
  go_enter Try.func34, Try.ntmps34
  go_wp2_with (go_at_call 50; refine (ask_none _ _).mono ?_; rintro e w1 ⟨rfl, rfl⟩)
  go_ret2
  exact ⟨rfl, rfl⟩
theorem clone_nil (w : World) : Calls Try.prog 37 #[.pointer Option.none] w (Same w (.pointer Option.none)) := by
  go_enter Try.func37, Try.ntmps37
  go_wp2
  go_ret
  exact ⟨rfl, rfl⟩
end Go.Proofs.Ytiphkgkhfomcaaa.Duct
