/- Chapter 19 (ledger): a ledger, and the document's beside it. -/
import Derived.Test.YtaokiocpfpdmkaaLedClone
set_option linter.unusedVariables false
namespace Go.Proofs.Ytaokiocpfpdmkaa.Led
open Go.BigFrame Go.RowKit Go.OpenShut Go.Proofs.Ytaokiocpfpdmkaa.Aid Go.Proofs.Ytaokiocpfpdmkaa.Spans
structure Pair (w W : World) (g : Nat) (v u : Value) (L M : Led) : Prop where
  st : St w W g v L
  row : RowOf 26 2 encS W u M.list
  own : ∀ b, u.ownBlock = some b → w.heap.size ≤ b ∧ b ≠ g ∧ v.ownBlock ≠ some b
theorem Pair.below {w W W' : World} {g : Nat} {v u : Value} {L M : Led} (h : Pair w W g v u L M) (hb : Below W.heap.size W W') : Pair w W' g v u L M :=
  ⟨h.st.below hb, h.row.below hb, h.own⟩
/-- The ledger turns. -/
theorem Pair.does {w W W' : World} {g : Nat} {v r u : Value} {L L' M : Led} {e : Ending} (h : Pair w W g v u L M) (d : Does W g v r L' e W') : e = .returned r ∧ ∃ v', Pair w W' g v' u L' M := by
  obtain ⟨he, v', hs, hk, ho⟩ := h.st.does d
  refine ⟨he, v', hs, h.row.same fun k e => hk.block k (h.row.lt k e) (h.own k e).2.1 (h.own k e).2.2, fun b e => ⟨(h.own b e).1, (h.own b e).2.1, fun e2 => ?_⟩⟩
  rcases ho b e2 with h1 | h1
  · exact (h.own b e).2.2 h1
  · have := h.row.lt b e
    omega
/-- The document's turns: its list is what it was, or one of the call's own. -/
theorem Pair.turn {w W W' : World} {g : Nat} {v u u' : Value} {L M M' : Led} (h : Pair w W g v u L M) (hb : Below W.heap.size W W') (hr : RowOf 26 2 encS W' u' M'.list) (ho : ∀ k, u'.ownBlock = some k → u.ownBlock = some k ∨ W.heap.size ≤ k) : Pair w W' g v u' L M' :=
  ⟨h.st.below hb, hr, fun b e => by
    rcases ho b e with h1 | h1
    · exact h.own b h1
    · have h2 := h.st.led.box.lt
      have h3 := h.st.bel.size
      refine ⟨by omega, by omega, fun e2 => ?_⟩
      have := h.st.led.row.lt b e2
      omega⟩
end Go.Proofs.Ytaokiocpfpdmkaa.Led
