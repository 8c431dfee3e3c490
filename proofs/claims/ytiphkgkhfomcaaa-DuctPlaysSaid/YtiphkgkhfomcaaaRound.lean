/- A region that draws its order, in a round of a range over a function, at the wide fence: walked as anywhere, where no operation is a defer statement. No program in it. -/
import Derived.RangeFuncNested
import Derived.RangeFuncCalls
import Derived.TacticsInMore
import Derived.OrdersIn
import Derived.Deep.RegionHeld
namespace Go.Proofs.Ytiphkgkhfomcaaa.Round
open Go
section
variable {P : Program} {l n : Nat} {Q : Exit → Act → World → Prop}
theorem upon_round {o : Oper} {a : Act} {K : Act → World → Prop} (r : Result Next) (h : o.upon P a K Q r) : o.uponIn (Fence.wide.inRound l) n P a K Q r := by
  unfold Oper.upon at h
  unfold Oper.uponIn
  split at h
  · exact h
  · exact h
  · exact h
  · exact ⟨fun h1 => by simp [Fence.inRound, Fence.wide] at h1, CallsIn.inRound l (callsIn_wide.2 h)⟩
  · refine ⟨fun h1 => by simp [Fence.inRound, Fence.wide] at h1, fun c cs _ => ?_⟩
    obtain ⟨v, w', h1, h2⟩ := h c cs
    exact ⟨v, w', h1, stepsIn_wide.2 h2⟩
  · exact h
  · exact h.elim
theorem oper_round {o : Oper} {a : Act} {w : World} {K : Act → World → Prop} (hnd : ∀ c, o.op ≠ .defer c) (h : o.wp P a w K Q) : o.wpIn (Fence.wide.inRound l) n P a w K Q := by
  refine ⟨fun f _ => trivial, ?_⟩
  rw [Fence.inRound_round, Oper.semAt_some l _ _ hnd]
  exact upon_round _ h
theorem op_round {ops : Array Oper} {i : Nat} {a : Act} {w : World} {K : Act → World → Prop} (hQ : ¬ LetsOut Q) (hnd : ∀ o ∈ ops, ∀ c, o.op ≠ .defer c) (h : wpOp P ops Q i K a w) : wpOpIn (Fence.wide.inRound l) n P ops Q i K a w := by
  unfold wpOp at h
  unfold wpOpIn
  split at h
  · rename_i hi
    simpa only [hi] using h
  · rename_i o hi
    simp only [hi]
    split at h
    · rename_i hw
      rw [if_pos hw]
      rcases h with h | ⟨_, h⟩
      · exact oper_round (hnd o (Array.mem_of_getElem? hi)) h
      · exact absurd h hQ
    · rename_i hw
      rw [if_neg hw]
      exact ⟨fun f _ => trivial, h⟩
theorem any_round {md : Region.Mode} {ops : Array Oper} (hQ : ¬ LetsOut Q) (hnd : ∀ o ∈ ops, ∀ c, o.op ≠ .defer c) : ∀ (fuel : Nat) (listed : Array Bool) (a : Act) (w : World), wpAny P md ops Q fuel listed a w → wpAnyIn (Fence.wide.inRound l) n P md ops Q fuel listed a w
  | 0, _, _, _, h => h
  | fuel + 1, _, _, _, h => ⟨h.1, fun i hi => op_round hQ hnd (wpOp_mono (fun a' w' h' => any_round hQ hnd fuel _ a' w' h') (h.2 i hi))⟩
/-- The beginning of such a walk. -/
theorem round_held {id : Nat} {ops : Array Oper} {a : Act} {w : World} {S : World → Prop} (hQ : ¬ LetsOut Q) (hb : ops.all (fun o => match o.op with | .defer _ => false | _ => true) = true) (hm : P.follows .mixedOrders = true) (hS : S w.drew)
    (h : S w.drew → wpAnyH P .any ops Q S ops.size (Array.replicate ops.size false) a w.drew) : (Code.region id ops true).wpIn (Fence.wide.inRound l) n P Q a w :=
  wpIn_region_any hm (any_round hQ (fun o ho c e => by
    have := Array.all_eq_true'.1 hb o ho
    rw [e] at this
    cases this) _ _ _ _ (wpAny_of_held _ _ _ _ (h hS)))
end
end Go.Proofs.Ytiphkgkhfomcaaa.Round
