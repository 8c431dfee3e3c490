/-
  No cell of these rows narrows 'for every input' (looked for: loops, veiled, ifaces, maps, wideKeys, modest, calm, conditions, laid).
  DERIVED. THE GIVEN ROWS OF THIS SEAT. 11 by the template 'for every input the law returns true; each argument reads behind the call as it read before'; 0 by the template 'total and deterministic' (their statements: YtmkinnkndjmpbaaTotals.lean).
  GIVEN WITH THE SEED: the statements are not yours to turn. If you find one false, say at which input.
  Laid BY PROGRAM, IN A SANDBOX (cutbox-rows.mjs): the forced cells as the released guide's own fill.sh prints them over the translation 2af6407c7252ad75… (all of the seat's roots in one cut). By AI agents, Wed Nov 11 2026. No macro, syntax, notation, axiom, sorry.
-/
import Derived.Test.YtmkinnkndjmpbaaChecked
import GoSem.Claim
import GoSem.ClaimJoined
import GoSem.ClaimMapViews
import Derived.JoinedTies
import Derived.KernelRfl
namespace Go.Proofs.Ytmkinnkndjmpbaa
/- THE CELL 'sum', in the pinned program and in every row, IS THE sha256 OF THE DUMP (.gsa) THAT YtmkinnkndjmpbaaProg.lean LOADS. Nothing in Lean hashes anything: it is a label: what it is worth is what the hold of that sum in a sandbox is worth. -/
noncomputable def Try.pinned : Pinned := { name := "ytmkinnkndjmpbaa", sum := "2af6407c7252ad754339bb620c48ec3545a8258e34b60676135c1cb13ca26946", checked := Try.checked }
namespace Rows
def none {H : Type} : Left H := { results := [], args := [] }

/-- 'undertowlaw01.SeqBetween': WHATEVER THE INPUT: true; the input reads as it did. -/
def seqBetweenSpec : ChangeSpec := { name := "seqBetween", fn := fun _ => fun
  | [d1, d2, d3] => { results := [.lit (.bool true)], args := [d1, d2, d3] }
  | _ => none }
def seqBetweenRow : OpenClaim := { program := "ytmkinnkndjmpbaa", sum := "2af6407c7252ad754339bb620c48ec3545a8258e34b60676135c1cb13ca26946", func := "undertow/undertowlaw01.SeqBetween", spec := "seqBetween", apart := false }
def SeqBetweenSaid : Prop := seqBetweenRow.holds Try.pinned (OpenSpec.ofChange seqBetweenSpec)

/-- ITS FALSE NEIGHBOUR: 'it returns false'. Refute it at one input. -/
def seqBetweenWrong : ChangeSpec := { name := "seqBetween", fn := fun _ => fun
  | [d1, d2, d3] => { results := [.lit (.bool false)], args := [d1, d2, d3] }
  | _ => none }
def SeqBetweenWrongFalsely : Prop := seqBetweenRow.holds Try.pinned (OpenSpec.ofChange seqBetweenWrong)

/-- 'undertowlaw01.SeqUnwrap': WHATEVER THE INPUT: true; the input reads as it did. -/
def seqUnwrapSpec : ChangeSpec := { name := "seqUnwrap", fn := fun _ => fun
  | [d1, d2] => { results := [.lit (.bool true)], args := [d1, d2] }
  | _ => none }
def seqUnwrapRow : OpenClaim := { program := "ytmkinnkndjmpbaa", sum := "2af6407c7252ad754339bb620c48ec3545a8258e34b60676135c1cb13ca26946", func := "undertow/undertowlaw01.SeqUnwrap", spec := "seqUnwrap", apart := false }
def SeqUnwrapSaid : Prop := seqUnwrapRow.holds Try.pinned (OpenSpec.ofChange seqUnwrapSpec)

/-- ITS FALSE NEIGHBOUR: 'it returns false'. Refute it at one input. -/
def seqUnwrapWrong : ChangeSpec := { name := "seqUnwrap", fn := fun _ => fun
  | [d1, d2] => { results := [.lit (.bool false)], args := [d1, d2] }
  | _ => none }
def SeqUnwrapWrongFalsely : Prop := seqUnwrapRow.holds Try.pinned (OpenSpec.ofChange seqUnwrapWrong)

/-- 'undertowlaw01.SeqBack': WHATEVER THE INPUT: true; the input reads as it did. -/
def seqBackSpec : ChangeSpec := { name := "seqBack", fn := fun _ => fun
  | [d1, d2] => { results := [.lit (.bool true)], args := [d1, d2] }
  | _ => none }
def seqBackRow : OpenClaim := { program := "ytmkinnkndjmpbaa", sum := "2af6407c7252ad754339bb620c48ec3545a8258e34b60676135c1cb13ca26946", func := "undertow/undertowlaw01.SeqBack", spec := "seqBack", apart := false }
def SeqBackSaid : Prop := seqBackRow.holds Try.pinned (OpenSpec.ofChange seqBackSpec)

/-- ITS FALSE NEIGHBOUR: 'it returns false'. Refute it at one input. -/
def seqBackWrong : ChangeSpec := { name := "seqBack", fn := fun _ => fun
  | [d1, d2] => { results := [.lit (.bool false)], args := [d1, d2] }
  | _ => none }
def SeqBackWrongFalsely : Prop := seqBackRow.holds Try.pinned (OpenSpec.ofChange seqBackWrong)

/-- 'undertowlaw01.SeqLatest': WHATEVER THE INPUT: true; the input reads as it did. -/
def seqLatestSpec : ChangeSpec := { name := "seqLatest", fn := fun _ => fun
  | [d1, d2] => { results := [.lit (.bool true)], args := [d1, d2] }
  | _ => none }
def seqLatestRow : OpenClaim := { program := "ytmkinnkndjmpbaa", sum := "2af6407c7252ad754339bb620c48ec3545a8258e34b60676135c1cb13ca26946", func := "undertow/undertowlaw01.SeqLatest", spec := "seqLatest", apart := false }
def SeqLatestSaid : Prop := seqLatestRow.holds Try.pinned (OpenSpec.ofChange seqLatestSpec)

/-- ITS FALSE NEIGHBOUR: 'it returns false'. Refute it at one input. -/
def seqLatestWrong : ChangeSpec := { name := "seqLatest", fn := fun _ => fun
  | [d1, d2] => { results := [.lit (.bool false)], args := [d1, d2] }
  | _ => none }
def SeqLatestWrongFalsely : Prop := seqLatestRow.holds Try.pinned (OpenSpec.ofChange seqLatestWrong)

/-- 'undertowlaw01.SeqDist': WHATEVER THE INPUT: true; the input reads as it did. -/
def seqDistSpec : ChangeSpec := { name := "seqDist", fn := fun _ => fun
  | [d1, d2, d3] => { results := [.lit (.bool true)], args := [d1, d2, d3] }
  | _ => none }
def seqDistRow : OpenClaim := { program := "ytmkinnkndjmpbaa", sum := "2af6407c7252ad754339bb620c48ec3545a8258e34b60676135c1cb13ca26946", func := "undertow/undertowlaw01.SeqDist", spec := "seqDist", apart := false }
def SeqDistSaid : Prop := seqDistRow.holds Try.pinned (OpenSpec.ofChange seqDistSpec)

/-- ITS FALSE NEIGHBOUR: 'it returns false'. Refute it at one input. -/
def seqDistWrong : ChangeSpec := { name := "seqDist", fn := fun _ => fun
  | [d1, d2, d3] => { results := [.lit (.bool false)], args := [d1, d2, d3] }
  | _ => none }
def SeqDistWrongFalsely : Prop := seqDistRow.holds Try.pinned (OpenSpec.ofChange seqDistWrong)

/-- 'undertowlaw01.SeqTurns': WHATEVER THE INPUT: true; the input reads as it did. -/
def seqTurnsSpec : ChangeSpec := { name := "seqTurns", fn := fun _ => fun
  | [d1, d2, d3] => { results := [.lit (.bool true)], args := [d1, d2, d3] }
  | _ => none }
def seqTurnsRow : OpenClaim := { program := "ytmkinnkndjmpbaa", sum := "2af6407c7252ad754339bb620c48ec3545a8258e34b60676135c1cb13ca26946", func := "undertow/undertowlaw01.SeqTurns", spec := "seqTurns", apart := false }
def SeqTurnsSaid : Prop := seqTurnsRow.holds Try.pinned (OpenSpec.ofChange seqTurnsSpec)

/-- ITS FALSE NEIGHBOUR: 'it returns false'. Refute it at one input. -/
def seqTurnsWrong : ChangeSpec := { name := "seqTurns", fn := fun _ => fun
  | [d1, d2, d3] => { results := [.lit (.bool false)], args := [d1, d2, d3] }
  | _ => none }
def SeqTurnsWrongFalsely : Prop := seqTurnsRow.holds Try.pinned (OpenSpec.ofChange seqTurnsWrong)

/-- 'undertowlaw03.SumOf': WHATEVER THE INPUT: true; the input reads as it did. -/
def sumOfSpec : ChangeSpec := { name := "sumOf", fn := fun _ => fun
  | [d1, d2, d3] => { results := [.lit (.bool true)], args := [d1, d2, d3] }
  | _ => none }
def sumOfRow : OpenClaim := { program := "ytmkinnkndjmpbaa", sum := "2af6407c7252ad754339bb620c48ec3545a8258e34b60676135c1cb13ca26946", func := "undertow/undertowlaw03.SumOf", spec := "sumOf", unfollowed := true, recurses := true, apart := false }
def SumOfSaid : Prop := sumOfRow.holds Try.pinned (OpenSpec.ofChange sumOfSpec)

/-- ITS FALSE NEIGHBOUR: 'it returns false'. Refute it at one input. -/
def sumOfWrong : ChangeSpec := { name := "sumOf", fn := fun _ => fun
  | [d1, d2, d3] => { results := [.lit (.bool false)], args := [d1, d2, d3] }
  | _ => none }
def SumOfWrongFalsely : Prop := sumOfRow.holds Try.pinned (OpenSpec.ofChange sumOfWrong)

/-- 'undertowlaw03.SumParts': WHATEVER THE INPUT: true; the input reads as it did. -/
def sumPartsSpec : ChangeSpec := { name := "sumParts", fn := fun _ => fun
  | [d1, d2] => { results := [.lit (.bool true)], args := [d1, d2] }
  | _ => none }
def sumPartsRow : OpenClaim := { program := "ytmkinnkndjmpbaa", sum := "2af6407c7252ad754339bb620c48ec3545a8258e34b60676135c1cb13ca26946", func := "undertow/undertowlaw03.SumParts", spec := "sumParts", unfollowed := true, recurses := true, apart := false }
def SumPartsSaid : Prop := sumPartsRow.holds Try.pinned (OpenSpec.ofChange sumPartsSpec)

/-- ITS FALSE NEIGHBOUR: 'it returns false'. Refute it at one input. -/
def sumPartsWrong : ChangeSpec := { name := "sumParts", fn := fun _ => fun
  | [d1, d2] => { results := [.lit (.bool false)], args := [d1, d2] }
  | _ => none }
def SumPartsWrongFalsely : Prop := sumPartsRow.holds Try.pinned (OpenSpec.ofChange sumPartsWrong)

/-- 'undertowlaw03.SumTells': WHATEVER THE INPUT: true; the input reads as it did. -/
def sumTellsSpec : ChangeSpec := { name := "sumTells", fn := fun _ => fun
  | [d1, d2, d3, d4] => { results := [.lit (.bool true)], args := [d1, d2, d3, d4] }
  | _ => none }
def sumTellsRow : OpenClaim := { program := "ytmkinnkndjmpbaa", sum := "2af6407c7252ad754339bb620c48ec3545a8258e34b60676135c1cb13ca26946", func := "undertow/undertowlaw03.SumTells", spec := "sumTells", unfollowed := true, recurses := true, apart := false }
def SumTellsSaid : Prop := sumTellsRow.holds Try.pinned (OpenSpec.ofChange sumTellsSpec)

/-- ITS FALSE NEIGHBOUR: 'it returns false'. Refute it at one input. -/
def sumTellsWrong : ChangeSpec := { name := "sumTells", fn := fun _ => fun
  | [d1, d2, d3, d4] => { results := [.lit (.bool false)], args := [d1, d2, d3, d4] }
  | _ => none }
def SumTellsWrongFalsely : Prop := sumTellsRow.holds Try.pinned (OpenSpec.ofChange sumTellsWrong)

/-- 'undertowlaw03.SumWithin': WHATEVER THE INPUT: true; the input reads as it did. -/
def sumWithinSpec : ChangeSpec := { name := "sumWithin", fn := fun _ => fun
  | [d] => { results := [.lit (.bool true)], args := [d] }
  | _ => none }
def sumWithinRow : OpenClaim := { program := "ytmkinnkndjmpbaa", sum := "2af6407c7252ad754339bb620c48ec3545a8258e34b60676135c1cb13ca26946", func := "undertow/undertowlaw03.SumWithin", spec := "sumWithin", unfollowed := true, recurses := true, apart := false }
def SumWithinSaid : Prop := sumWithinRow.holds Try.pinned (OpenSpec.ofChange sumWithinSpec)

/-- ITS FALSE NEIGHBOUR: 'it returns false'. Refute it at one input. -/
def sumWithinWrong : ChangeSpec := { name := "sumWithin", fn := fun _ => fun
  | [d] => { results := [.lit (.bool false)], args := [d] }
  | _ => none }
def SumWithinWrongFalsely : Prop := sumWithinRow.holds Try.pinned (OpenSpec.ofChange sumWithinWrong)

/-- 'undertowlaw03.SumTurns': WHATEVER THE INPUT: true; the input reads as it did. -/
def sumTurnsSpec : ChangeSpec := { name := "sumTurns", fn := fun _ => fun
  | [d1, d2, d3, d4] => { results := [.lit (.bool true)], args := [d1, d2, d3, d4] }
  | _ => none }
def sumTurnsRow : OpenClaim := { program := "ytmkinnkndjmpbaa", sum := "2af6407c7252ad754339bb620c48ec3545a8258e34b60676135c1cb13ca26946", func := "undertow/undertowlaw03.SumTurns", spec := "sumTurns", unfollowed := true, recurses := true, apart := false }
def SumTurnsSaid : Prop := sumTurnsRow.holds Try.pinned (OpenSpec.ofChange sumTurnsSpec)

/-- ITS FALSE NEIGHBOUR: 'it returns false'. Refute it at one input. -/
def sumTurnsWrong : ChangeSpec := { name := "sumTurns", fn := fun _ => fun
  | [d1, d2, d3, d4] => { results := [.lit (.bool false)], args := [d1, d2, d3, d4] }
  | _ => none }
def SumTurnsWrongFalsely : Prop := sumTurnsRow.holds Try.pinned (OpenSpec.ofChange sumTurnsWrong)

/- THE SECOND FORM. 'bulk': how many values and letters a reading holds, each counted each time it is reached (what is shared counts as often as it is met; a slice's spare places count too). A statement '..UptoSaid' is the law's where the arguments, and the package variables that the reading takes, are together of bulk at most 1048576: NARROWER than '..Said'. Prove '..Said' where nothing that the law and all that it calls make is longer than what came in: it says more and counts as full. Else prove '..UptoSaid'. A law counts once. -/
mutual
def uptoBulk {H : Type} : DataW H → Nat
  | .lit (.string bytes) => bytes.length + 1
  | .lit _ => 1
  | .nil => 1
  | .ptr d => uptoBulk d + 1
  | .slice elems spare => uptoBulkAll elems + uptoBulkAll spare + 1
  | .agg parts => uptoBulkAll parts + 1
  | .iface _ d => uptoBulk d + 1
  | .map entries => uptoBulkEntries entries + 1
  | .held _ => 1
def uptoBulkAll {H : Type} : List (DataW H) → Nat
  | [] => 0
  | d :: r => uptoBulk d + uptoBulkAll r
def uptoBulkEntries {H : Type} : List (Lit × DataW H) → Nat
  | [] => 0
  | x :: r => uptoBulkEntry x + uptoBulkEntries r
def uptoBulkEntry {H : Type} : Lit × DataW H → Nat
  | (.string bytes, d) => bytes.length + uptoBulk d + 1
  | (_, d) => uptoBulk d + 1
 end
def uptoSmall : (H : Type) → List (DataW H) → Bool := fun _ ds => decide (uptoBulkAll ds ≤ 1048576)
def OpenSpec.upto (s : _root_.Go.ChangeSpec) : _root_.Go.OpenSpec := { _root_.Go.OpenSpec.ofChange s with cond := some uptoSmall }

/-- 'undertowlaw01.SeqBetween', WHERE WHAT IT READS IS OF BULK AT MOST 1048576: true; the input reads as it did. -/
def seqBetweenUptoRow : OpenClaim := { program := "ytmkinnkndjmpbaa", sum := "2af6407c7252ad754339bb620c48ec3545a8258e34b60676135c1cb13ca26946", func := "undertow/undertowlaw01.SeqBetween", spec := "seqBetween", apart := false, narrowed := true }
def SeqBetweenUptoSaid : Prop := seqBetweenUptoRow.holds Try.pinned (OpenSpec.upto seqBetweenSpec)

/-- 'undertowlaw01.SeqUnwrap', WHERE WHAT IT READS IS OF BULK AT MOST 1048576: true; the input reads as it did. -/
def seqUnwrapUptoRow : OpenClaim := { program := "ytmkinnkndjmpbaa", sum := "2af6407c7252ad754339bb620c48ec3545a8258e34b60676135c1cb13ca26946", func := "undertow/undertowlaw01.SeqUnwrap", spec := "seqUnwrap", apart := false, narrowed := true }
def SeqUnwrapUptoSaid : Prop := seqUnwrapUptoRow.holds Try.pinned (OpenSpec.upto seqUnwrapSpec)

/-- 'undertowlaw01.SeqBack', WHERE WHAT IT READS IS OF BULK AT MOST 1048576: true; the input reads as it did. -/
def seqBackUptoRow : OpenClaim := { program := "ytmkinnkndjmpbaa", sum := "2af6407c7252ad754339bb620c48ec3545a8258e34b60676135c1cb13ca26946", func := "undertow/undertowlaw01.SeqBack", spec := "seqBack", apart := false, narrowed := true }
def SeqBackUptoSaid : Prop := seqBackUptoRow.holds Try.pinned (OpenSpec.upto seqBackSpec)

/-- 'undertowlaw01.SeqLatest', WHERE WHAT IT READS IS OF BULK AT MOST 1048576: true; the input reads as it did. -/
def seqLatestUptoRow : OpenClaim := { program := "ytmkinnkndjmpbaa", sum := "2af6407c7252ad754339bb620c48ec3545a8258e34b60676135c1cb13ca26946", func := "undertow/undertowlaw01.SeqLatest", spec := "seqLatest", apart := false, narrowed := true }
def SeqLatestUptoSaid : Prop := seqLatestUptoRow.holds Try.pinned (OpenSpec.upto seqLatestSpec)

/-- 'undertowlaw01.SeqDist', WHERE WHAT IT READS IS OF BULK AT MOST 1048576: true; the input reads as it did. -/
def seqDistUptoRow : OpenClaim := { program := "ytmkinnkndjmpbaa", sum := "2af6407c7252ad754339bb620c48ec3545a8258e34b60676135c1cb13ca26946", func := "undertow/undertowlaw01.SeqDist", spec := "seqDist", apart := false, narrowed := true }
def SeqDistUptoSaid : Prop := seqDistUptoRow.holds Try.pinned (OpenSpec.upto seqDistSpec)

/-- 'undertowlaw01.SeqTurns', WHERE WHAT IT READS IS OF BULK AT MOST 1048576: true; the input reads as it did. -/
def seqTurnsUptoRow : OpenClaim := { program := "ytmkinnkndjmpbaa", sum := "2af6407c7252ad754339bb620c48ec3545a8258e34b60676135c1cb13ca26946", func := "undertow/undertowlaw01.SeqTurns", spec := "seqTurns", apart := false, narrowed := true }
def SeqTurnsUptoSaid : Prop := seqTurnsUptoRow.holds Try.pinned (OpenSpec.upto seqTurnsSpec)

/-- 'undertowlaw03.SumOf', WHERE WHAT IT READS IS OF BULK AT MOST 1048576: true; the input reads as it did. -/
def sumOfUptoRow : OpenClaim := { program := "ytmkinnkndjmpbaa", sum := "2af6407c7252ad754339bb620c48ec3545a8258e34b60676135c1cb13ca26946", func := "undertow/undertowlaw03.SumOf", spec := "sumOf", unfollowed := true, recurses := true, apart := false, narrowed := true }
def SumOfUptoSaid : Prop := sumOfUptoRow.holds Try.pinned (OpenSpec.upto sumOfSpec)

/-- 'undertowlaw03.SumParts', WHERE WHAT IT READS IS OF BULK AT MOST 1048576: true; the input reads as it did. -/
def sumPartsUptoRow : OpenClaim := { program := "ytmkinnkndjmpbaa", sum := "2af6407c7252ad754339bb620c48ec3545a8258e34b60676135c1cb13ca26946", func := "undertow/undertowlaw03.SumParts", spec := "sumParts", unfollowed := true, recurses := true, apart := false, narrowed := true }
def SumPartsUptoSaid : Prop := sumPartsUptoRow.holds Try.pinned (OpenSpec.upto sumPartsSpec)

/-- 'undertowlaw03.SumTells', WHERE WHAT IT READS IS OF BULK AT MOST 1048576: true; the input reads as it did. -/
def sumTellsUptoRow : OpenClaim := { program := "ytmkinnkndjmpbaa", sum := "2af6407c7252ad754339bb620c48ec3545a8258e34b60676135c1cb13ca26946", func := "undertow/undertowlaw03.SumTells", spec := "sumTells", unfollowed := true, recurses := true, apart := false, narrowed := true }
def SumTellsUptoSaid : Prop := sumTellsUptoRow.holds Try.pinned (OpenSpec.upto sumTellsSpec)

/-- 'undertowlaw03.SumWithin', WHERE WHAT IT READS IS OF BULK AT MOST 1048576: true; the input reads as it did. -/
def sumWithinUptoRow : OpenClaim := { program := "ytmkinnkndjmpbaa", sum := "2af6407c7252ad754339bb620c48ec3545a8258e34b60676135c1cb13ca26946", func := "undertow/undertowlaw03.SumWithin", spec := "sumWithin", unfollowed := true, recurses := true, apart := false, narrowed := true }
def SumWithinUptoSaid : Prop := sumWithinUptoRow.holds Try.pinned (OpenSpec.upto sumWithinSpec)

/-- 'undertowlaw03.SumTurns', WHERE WHAT IT READS IS OF BULK AT MOST 1048576: true; the input reads as it did. -/
def sumTurnsUptoRow : OpenClaim := { program := "ytmkinnkndjmpbaa", sum := "2af6407c7252ad754339bb620c48ec3545a8258e34b60676135c1cb13ca26946", func := "undertow/undertowlaw03.SumTurns", spec := "sumTurns", unfollowed := true, recurses := true, apart := false, narrowed := true }
def SumTurnsUptoSaid : Prop := sumTurnsUptoRow.holds Try.pinned (OpenSpec.upto sumTurnsSpec)

end Rows
end Go.Proofs.Ytmkinnkndjmpbaa
