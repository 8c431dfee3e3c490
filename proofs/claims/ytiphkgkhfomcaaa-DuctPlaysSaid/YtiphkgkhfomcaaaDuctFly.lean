/- Chapter 25 (duct): Flying of a duct that is none: no round. -/
import Derived.Test.YtiphkgkhfomcaaaDuctNth
import Derived.RangeFuncNested
import Derived.RangeFuncBound
import Derived.RangeFuncCalls
import Derived.RangeFuncLeaves
import Derived.Shelf.Abstract
import Derived.Shelf.RegionOpen
import Derived.OwnWalkIn
import Derived.TacticsInMore
import Derived.LoopNIn
import Derived.LoopIn
set_option linter.unusedSimpArgs false
set_option linter.unusedVariables false
attribute [local go_sem ↓] Go.wp_at_zero Go.wp_at_succ
namespace Go.Proofs.Ytiphkgkhfomcaaa.Duct
open Go.BigFrame Go.RowKit Go.OpenShut Go.Shelf Go.Proofs.Ytiphkgkhfomcaaa.Aid Go.Proofs.Ytiphkgkhfomcaaa.DMap Go.Proofs.Ytiphkgkhfomcaaa.Byt
attribute [local go_sem] Oper.semAt_some
theorem flying_nil (w : World) : Calls Try.prog 39 #[.pointer Option.none] w fun e w' => e = .returned (.func (.func 60) #[] #[.pointer (some ⟨w.heap.size, 0, Option.none⟩)]) ∧ w' = w.alloc (.cells #[.pointer Option.none] 57) := by
  go_enter Try.func39, Try.ntmps39
  go_wp2
  go_ret
  exact ⟨rfl, rfl⟩
theorem none_in (F : Fence) (n : Nat) (hf : F.fn 60) (hro : F.round = Option.none) (l B : Nat) (W : World) (hB : W.cell? ⟨B, 0, Option.none⟩ = some (.pointer Option.none)) :
    CallsIn F n Try.prog 60 #[.func (.yield l) #[] #[], .pointer (some ⟨B, 0, Option.none⟩)] W fun e W' => (∃ v, e = .returned v) ∧ W = W' := by
  refine callsIn_of_wp Try.func60 rfl hf ?_ hro
  simp only [Try.ntmps60, List.size_toArray, List.length_cons, List.length_nil, Nat.reduceAdd, Nat.reduceSub, Array.replicate_succ, Array.replicate_zero, List.push_toArray, List.append_toArray, List.nil_append, List.cons_append]
  gi_wp2

  exact bodyPost_ret (v := .tuple #[]) (by simp [results, Try.results60, go_sem]; done) rfl ⟨⟨_, rfl⟩, rfl⟩
end Go.Proofs.Ytiphkgkhfomcaaa.Duct
