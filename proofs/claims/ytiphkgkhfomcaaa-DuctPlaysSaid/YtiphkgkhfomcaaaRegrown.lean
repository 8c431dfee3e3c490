/- Regions that draw their order, whose callees make memory of their own alone: the class of worlds, for blocks known whole. No program in it. -/
import Derived.Test.YtiphkgkhfomcaaaAid
import Derived.Lib.QuietBelow
namespace Go.Proofs.Ytiphkgkhfomcaaa.Aid
open Go.RowKit
section
variable {P : Program} {f : FuncId} {args : Array Value} {w : World} {d : Nat} {os : Array Obj} {v : Value}
theorem Blk.regrown {g : Nat} {t : TypeId} {cs : Array Value} (h : Blk w g t cs) (d : Nat) (os : Array Obj) : Blk (Go.Sort.grow (redrawn w d) os) g t cs := h.below (below_regrown w d os) h.lt
theorem regrown_quiet (h : Calls P f args (Go.Sort.grow (redrawn w d) os) fun e w' => e = .returned v ∧ ∃ n, w' = (Go.Sort.grow (redrawn w d) os).drewN n) :
    Calls P f args (Go.Sort.grow (redrawn w d) os) fun e w'' => e = .returned v ∧ ∃ p : Regrown, w'' = Go.Sort.grow (redrawn w p.d) p.os :=
  Calls.regrown_of (h.mono fun _ _ ⟨he, n, hm⟩ => ⟨he, by rw [hm]; exact below_drewN (Below.refl _ _) n⟩)
theorem regrown_same (h : Calls P f args (Go.Sort.grow (redrawn w d) os) fun e w' => e = .returned v ∧ Go.Sort.grow (redrawn w d) os = w') :
    Calls P f args (Go.Sort.grow (redrawn w d) os) fun e w'' => e = .returned v ∧ ∃ p : Regrown, w'' = Go.Sort.grow (redrawn w p.d) p.os :=
  Calls.regrown_of (h.mono fun _ _ ⟨he, hm⟩ => ⟨he, by rw [← hm]; exact Below.refl _ _⟩)
end
end Go.Proofs.Ytiphkgkhfomcaaa.Aid
