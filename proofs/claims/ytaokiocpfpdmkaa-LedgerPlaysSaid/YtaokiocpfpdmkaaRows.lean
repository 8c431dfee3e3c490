/-
  No cell of these rows narrows 'for every input' (looked for: loops, veiled, ifaces, maps, wideKeys, modest, calm, conditions, laid).
  DERIVED. THE GIVEN ROWS OF THIS SEAT. 11 by the template 'for every input the law returns true; each argument reads behind the call as it read before'; 0 by the template 'total and deterministic' (their statements: YtaokiocpfpdmkaaTotals.lean).
  GIVEN WITH THE SEED: the statements are not yours to turn. If you find one false, say at which input.
  Laid BY PROGRAM, IN A SANDBOX (cutbox-rows.mjs): the forced cells as the released guide's own fill.sh prints them over the translation a6ccc12a9d3e7518… (all of the seat's roots in one cut). By AI agents, Wed Nov 11 2026. No macro, syntax, notation, axiom, sorry.
-/
import Derived.Test.YtaokiocpfpdmkaaChecked
import GoSem.Claim
import GoSem.ClaimJoined
import GoSem.ClaimMapViews
import Derived.JoinedTies
import Derived.KernelRfl
namespace Go.Proofs.Ytaokiocpfpdmkaa
/- THE CELL 'sum', in the pinned program and in every row, IS THE sha256 OF THE DUMP (.gsa) THAT YtaokiocpfpdmkaaProg.lean LOADS. Nothing in Lean hashes anything: it is a label: what it is worth is what the hold of that sum in a sandbox is worth. -/
noncomputable def Try.pinned : Pinned := { name := "ytaokiocpfpdmkaa", sum := "a6ccc12a9d3e7518d2b06dac191cb475bd91cf1ffcd4caae4fa5cee38161b56d", checked := Try.checked }
namespace Rows
def none {H : Type} : Left H := { results := [], args := [] }

/-- 'undertowlaw10.DupLooks': WHATEVER THE INPUT: true; the input reads as it did. -/
def dupLooksSpec : ChangeSpec := { name := "dupLooks", fn := fun _ => fun
  | [d1, d2, d3, d4] => { results := [.lit (.bool true)], args := [d1, d2, d3, d4] }
  | _ => none }
def dupLooksRow : OpenClaim := { program := "ytaokiocpfpdmkaa", sum := "a6ccc12a9d3e7518d2b06dac191cb475bd91cf1ffcd4caae4fa5cee38161b56d", func := "undertow/undertowlaw10.DupLooks", spec := "dupLooks", unfollowed := true, recurses := true, apart := false }
def DupLooksSaid : Prop := dupLooksRow.holds Try.pinned (OpenSpec.ofChange dupLooksSpec)

/-- ITS FALSE NEIGHBOUR: 'it returns false'. Refute it at one input. -/
def dupLooksWrong : ChangeSpec := { name := "dupLooks", fn := fun _ => fun
  | [d1, d2, d3, d4] => { results := [.lit (.bool false)], args := [d1, d2, d3, d4] }
  | _ => none }
def DupLooksWrongFalsely : Prop := dupLooksRow.holds Try.pinned (OpenSpec.ofChange dupLooksWrong)

/-- 'undertowlaw10.DupWithin': WHATEVER THE INPUT: true; the input reads as it did. -/
def dupWithinSpec : ChangeSpec := { name := "dupWithin", fn := fun _ => fun
  | [d1, d2, d3, d4] => { results := [.lit (.bool true)], args := [d1, d2, d3, d4] }
  | _ => none }
def dupWithinRow : OpenClaim := { program := "ytaokiocpfpdmkaa", sum := "a6ccc12a9d3e7518d2b06dac191cb475bd91cf1ffcd4caae4fa5cee38161b56d", func := "undertow/undertowlaw10.DupWithin", spec := "dupWithin", unfollowed := true, recurses := true, apart := false }
def DupWithinSaid : Prop := dupWithinRow.holds Try.pinned (OpenSpec.ofChange dupWithinSpec)

/-- ITS FALSE NEIGHBOUR: 'it returns false'. Refute it at one input. -/
def dupWithinWrong : ChangeSpec := { name := "dupWithin", fn := fun _ => fun
  | [d1, d2, d3, d4] => { results := [.lit (.bool false)], args := [d1, d2, d3, d4] }
  | _ => none }
def DupWithinWrongFalsely : Prop := dupWithinRow.holds Try.pinned (OpenSpec.ofChange dupWithinWrong)

/-- 'undertowlaw10.DupBlocks': WHATEVER THE INPUT: true; the input reads as it did. -/
def dupBlocksSpec : ChangeSpec := { name := "dupBlocks", fn := fun _ => fun
  | [d1, d2, d3] => { results := [.lit (.bool true)], args := [d1, d2, d3] }
  | _ => none }
def dupBlocksRow : OpenClaim := { program := "ytaokiocpfpdmkaa", sum := "a6ccc12a9d3e7518d2b06dac191cb475bd91cf1ffcd4caae4fa5cee38161b56d", func := "undertow/undertowlaw10.DupBlocks", spec := "dupBlocks", unfollowed := true, recurses := true, apart := false }
def DupBlocksSaid : Prop := dupBlocksRow.holds Try.pinned (OpenSpec.ofChange dupBlocksSpec)

/-- ITS FALSE NEIGHBOUR: 'it returns false'. Refute it at one input. -/
def dupBlocksWrong : ChangeSpec := { name := "dupBlocks", fn := fun _ => fun
  | [d1, d2, d3] => { results := [.lit (.bool false)], args := [d1, d2, d3] }
  | _ => none }
def DupBlocksWrongFalsely : Prop := dupBlocksRow.holds Try.pinned (OpenSpec.ofChange dupBlocksWrong)

/-- 'undertowlaw10.DupBack': WHATEVER THE INPUT: true; the input reads as it did. -/
def dupBackSpec : ChangeSpec := { name := "dupBack", fn := fun _ => fun
  | [d1, d2, d3, d4] => { results := [.lit (.bool true)], args := [d1, d2, d3, d4] }
  | _ => none }
def dupBackRow : OpenClaim := { program := "ytaokiocpfpdmkaa", sum := "a6ccc12a9d3e7518d2b06dac191cb475bd91cf1ffcd4caae4fa5cee38161b56d", func := "undertow/undertowlaw10.DupBack", spec := "dupBack", unfollowed := true, recurses := true, apart := false }
def DupBackSaid : Prop := dupBackRow.holds Try.pinned (OpenSpec.ofChange dupBackSpec)

/-- ITS FALSE NEIGHBOUR: 'it returns false'. Refute it at one input. -/
def dupBackWrong : ChangeSpec := { name := "dupBack", fn := fun _ => fun
  | [d1, d2, d3, d4] => { results := [.lit (.bool false)], args := [d1, d2, d3, d4] }
  | _ => none }
def DupBackWrongFalsely : Prop := dupBackRow.holds Try.pinned (OpenSpec.ofChange dupBackWrong)

/-- 'undertowlaw19.LedgerCounts': WHATEVER THE INPUT: true; the input reads as it did. -/
def ledgerCountsSpec : ChangeSpec := { name := "ledgerCounts", fn := fun _ => fun
  | [d] => { results := [.lit (.bool true)], args := [d] }
  | _ => none }
def ledgerCountsRow : OpenClaim := { program := "ytaokiocpfpdmkaa", sum := "a6ccc12a9d3e7518d2b06dac191cb475bd91cf1ffcd4caae4fa5cee38161b56d", func := "undertow/undertowlaw19.LedgerCounts", spec := "ledgerCounts", unfollowed := true, recurses := true, apart := false }
def LedgerCountsSaid : Prop := ledgerCountsRow.holds Try.pinned (OpenSpec.ofChange ledgerCountsSpec)

/-- ITS FALSE NEIGHBOUR: 'it returns false'. Refute it at one input. -/
def ledgerCountsWrong : ChangeSpec := { name := "ledgerCounts", fn := fun _ => fun
  | [d] => { results := [.lit (.bool false)], args := [d] }
  | _ => none }
def LedgerCountsWrongFalsely : Prop := ledgerCountsRow.holds Try.pinned (OpenSpec.ofChange ledgerCountsWrong)

/-- 'undertowlaw19.LedgerAll': WHATEVER THE INPUT: true; the input reads as it did. -/
def ledgerAllSpec : ChangeSpec := { name := "ledgerAll", fn := fun _ => fun
  | [d1, d2, d3, d4] => { results := [.lit (.bool true)], args := [d1, d2, d3, d4] }
  | _ => none }
def ledgerAllRow : OpenClaim := { program := "ytaokiocpfpdmkaa", sum := "a6ccc12a9d3e7518d2b06dac191cb475bd91cf1ffcd4caae4fa5cee38161b56d", func := "undertow/undertowlaw19.LedgerAll", spec := "ledgerAll", unfollowed := true, recurses := true, apart := false }
def LedgerAllSaid : Prop := ledgerAllRow.holds Try.pinned (OpenSpec.ofChange ledgerAllSpec)

/-- ITS FALSE NEIGHBOUR: 'it returns false'. Refute it at one input. -/
def ledgerAllWrong : ChangeSpec := { name := "ledgerAll", fn := fun _ => fun
  | [d1, d2, d3, d4] => { results := [.lit (.bool false)], args := [d1, d2, d3, d4] }
  | _ => none }
def LedgerAllWrongFalsely : Prop := ledgerAllRow.holds Try.pinned (OpenSpec.ofChange ledgerAllWrong)

/-- 'undertowlaw19.LedgerPlays': WHATEVER THE INPUT: true; the input reads as it did. -/
def ledgerPlaysSpec : ChangeSpec := { name := "ledgerPlays", fn := fun _ => fun
  | [d] => { results := [.lit (.bool true)], args := [d] }
  | _ => none }
def ledgerPlaysRow : OpenClaim := { program := "ytaokiocpfpdmkaa", sum := "a6ccc12a9d3e7518d2b06dac191cb475bd91cf1ffcd4caae4fa5cee38161b56d", func := "undertow/undertowlaw19.LedgerPlays", spec := "ledgerPlays", unfollowed := true, recurses := true, apart := false }
def LedgerPlaysSaid : Prop := ledgerPlaysRow.holds Try.pinned (OpenSpec.ofChange ledgerPlaysSpec)

/-- ITS FALSE NEIGHBOUR: 'it returns false'. Refute it at one input. -/
def ledgerPlaysWrong : ChangeSpec := { name := "ledgerPlays", fn := fun _ => fun
  | [d] => { results := [.lit (.bool false)], args := [d] }
  | _ => none }
def LedgerPlaysWrongFalsely : Prop := ledgerPlaysRow.holds Try.pinned (OpenSpec.ofChange ledgerPlaysWrong)

/-- 'undertowlaw19.LedgerNone': WHATEVER THE INPUT: true; the input reads as it did. -/
def ledgerNoneSpec : ChangeSpec := { name := "ledgerNone", fn := fun _ => fun
  | [d1, d2] => { results := [.lit (.bool true)], args := [d1, d2] }
  | _ => none }
def ledgerNoneRow : OpenClaim := { program := "ytaokiocpfpdmkaa", sum := "a6ccc12a9d3e7518d2b06dac191cb475bd91cf1ffcd4caae4fa5cee38161b56d", func := "undertow/undertowlaw19.LedgerNone", spec := "ledgerNone", unfollowed := true, recurses := true, apart := false }
def LedgerNoneSaid : Prop := ledgerNoneRow.holds Try.pinned (OpenSpec.ofChange ledgerNoneSpec)

/-- ITS FALSE NEIGHBOUR: 'it returns false'. Refute it at one input. -/
def ledgerNoneWrong : ChangeSpec := { name := "ledgerNone", fn := fun _ => fun
  | [d1, d2] => { results := [.lit (.bool false)], args := [d1, d2] }
  | _ => none }
def LedgerNoneWrongFalsely : Prop := ledgerNoneRow.holds Try.pinned (OpenSpec.ofChange ledgerNoneWrong)

/-- 'undertowlaw21.BufferKeeps': WHATEVER THE INPUT: true; the input reads as it did. -/
def bufferKeepsSpec : ChangeSpec := { name := "bufferKeeps", fn := fun _ => fun
  | [d1, d2, d3, d4, d5] => { results := [.lit (.bool true)], args := [d1, d2, d3, d4, d5] }
  | _ => none }
def bufferKeepsRow : OpenClaim := { program := "ytaokiocpfpdmkaa", sum := "a6ccc12a9d3e7518d2b06dac191cb475bd91cf1ffcd4caae4fa5cee38161b56d", func := "undertow/undertowlaw21.BufferKeeps", spec := "bufferKeeps", apart := false }
def BufferKeepsSaid : Prop := bufferKeepsRow.holds Try.pinned (OpenSpec.ofChange bufferKeepsSpec)

/-- ITS FALSE NEIGHBOUR: 'it returns false'. Refute it at one input. -/
def bufferKeepsWrong : ChangeSpec := { name := "bufferKeeps", fn := fun _ => fun
  | [d1, d2, d3, d4, d5] => { results := [.lit (.bool false)], args := [d1, d2, d3, d4, d5] }
  | _ => none }
def BufferKeepsWrongFalsely : Prop := bufferKeepsRow.holds Try.pinned (OpenSpec.ofChange bufferKeepsWrong)

/-- 'undertowlaw21.BufferPlays': WHATEVER THE INPUT: true; the input reads as it did. -/
def bufferPlaysSpec : ChangeSpec := { name := "bufferPlays", fn := fun _ => fun
  | [d1, d2, d3, d4] => { results := [.lit (.bool true)], args := [d1, d2, d3, d4] }
  | _ => none }
def bufferPlaysRow : OpenClaim := { program := "ytaokiocpfpdmkaa", sum := "a6ccc12a9d3e7518d2b06dac191cb475bd91cf1ffcd4caae4fa5cee38161b56d", func := "undertow/undertowlaw21.BufferPlays", spec := "bufferPlays", apart := false }
def BufferPlaysSaid : Prop := bufferPlaysRow.holds Try.pinned (OpenSpec.ofChange bufferPlaysSpec)

/-- ITS FALSE NEIGHBOUR: 'it returns false'. Refute it at one input. -/
def bufferPlaysWrong : ChangeSpec := { name := "bufferPlays", fn := fun _ => fun
  | [d1, d2, d3, d4] => { results := [.lit (.bool false)], args := [d1, d2, d3, d4] }
  | _ => none }
def BufferPlaysWrongFalsely : Prop := bufferPlaysRow.holds Try.pinned (OpenSpec.ofChange bufferPlaysWrong)

/-- 'undertowlaw21.BufferNone': WHATEVER THE INPUT: true; the input reads as it did. -/
def bufferNoneSpec : ChangeSpec := { name := "bufferNone", fn := fun _ => fun
  | [d1, d2] => { results := [.lit (.bool true)], args := [d1, d2] }
  | _ => none }
def bufferNoneRow : OpenClaim := { program := "ytaokiocpfpdmkaa", sum := "a6ccc12a9d3e7518d2b06dac191cb475bd91cf1ffcd4caae4fa5cee38161b56d", func := "undertow/undertowlaw21.BufferNone", spec := "bufferNone", apart := false }
def BufferNoneSaid : Prop := bufferNoneRow.holds Try.pinned (OpenSpec.ofChange bufferNoneSpec)

/-- ITS FALSE NEIGHBOUR: 'it returns false'. Refute it at one input. -/
def bufferNoneWrong : ChangeSpec := { name := "bufferNone", fn := fun _ => fun
  | [d1, d2] => { results := [.lit (.bool false)], args := [d1, d2] }
  | _ => none }
def BufferNoneWrongFalsely : Prop := bufferNoneRow.holds Try.pinned (OpenSpec.ofChange bufferNoneWrong)

/- THE SECOND FORM. 'bulk': how many values and letters a reading holds, each counted each time it is reached (what is shared counts as often as it is met; a slice's spare places count too). A statement '..UptoSaid' is the law's where the arguments, and the package variables that the reading takes, are together of bulk at most 1048576: NARROWER than '..Said'. Prove '..Said' where nothing that the law and all that it calls make is longer than what came in: it says more and counts as full. Else prove '..UptoSaid'. A law counts once. -/
mutual
def uptoBulk {H : Type} : DataW H → Nat
  | .lit (.string bytes) => bytes.length + 1
  | .lit _ => 1
  | .nil => 1
  | .ptr d => uptoBulk d + 1
  | .slice elems spare => uptoBulkAll elems + uptoBulkAll spare + 1
  | .agg parts => uptoBulkAll parts + 1
  | .iface _ d => uptoBulk d + 1
  | .map entries => uptoBulkEntries entries + 1
  | .held _ => 1
def uptoBulkAll {H : Type} : List (DataW H) → Nat
  | [] => 0
  | d :: r => uptoBulk d + uptoBulkAll r
def uptoBulkEntries {H : Type} : List (Lit × DataW H) → Nat
  | [] => 0
  | x :: r => uptoBulkEntry x + uptoBulkEntries r
def uptoBulkEntry {H : Type} : Lit × DataW H → Nat
  | (.string bytes, d) => bytes.length + uptoBulk d + 1
  | (_, d) => uptoBulk d + 1
 end
def uptoSmall : (H : Type) → List (DataW H) → Bool := fun _ ds => decide (uptoBulkAll ds ≤ 1048576)
def OpenSpec.upto (s : _root_.Go.ChangeSpec) : _root_.Go.OpenSpec := { _root_.Go.OpenSpec.ofChange s with cond := some uptoSmall }

/-- 'undertowlaw10.DupLooks', WHERE WHAT IT READS IS OF BULK AT MOST 1048576: true; the input reads as it did. -/
def dupLooksUptoRow : OpenClaim := { program := "ytaokiocpfpdmkaa", sum := "a6ccc12a9d3e7518d2b06dac191cb475bd91cf1ffcd4caae4fa5cee38161b56d", func := "undertow/undertowlaw10.DupLooks", spec := "dupLooks", unfollowed := true, recurses := true, apart := false, narrowed := true }
def DupLooksUptoSaid : Prop := dupLooksUptoRow.holds Try.pinned (OpenSpec.upto dupLooksSpec)

/-- 'undertowlaw10.DupWithin', WHERE WHAT IT READS IS OF BULK AT MOST 1048576: true; the input reads as it did. -/
def dupWithinUptoRow : OpenClaim := { program := "ytaokiocpfpdmkaa", sum := "a6ccc12a9d3e7518d2b06dac191cb475bd91cf1ffcd4caae4fa5cee38161b56d", func := "undertow/undertowlaw10.DupWithin", spec := "dupWithin", unfollowed := true, recurses := true, apart := false, narrowed := true }
def DupWithinUptoSaid : Prop := dupWithinUptoRow.holds Try.pinned (OpenSpec.upto dupWithinSpec)

/-- 'undertowlaw10.DupBlocks', WHERE WHAT IT READS IS OF BULK AT MOST 1048576: true; the input reads as it did. -/
def dupBlocksUptoRow : OpenClaim := { program := "ytaokiocpfpdmkaa", sum := "a6ccc12a9d3e7518d2b06dac191cb475bd91cf1ffcd4caae4fa5cee38161b56d", func := "undertow/undertowlaw10.DupBlocks", spec := "dupBlocks", unfollowed := true, recurses := true, apart := false, narrowed := true }
def DupBlocksUptoSaid : Prop := dupBlocksUptoRow.holds Try.pinned (OpenSpec.upto dupBlocksSpec)

/-- 'undertowlaw10.DupBack', WHERE WHAT IT READS IS OF BULK AT MOST 1048576: true; the input reads as it did. -/
def dupBackUptoRow : OpenClaim := { program := "ytaokiocpfpdmkaa", sum := "a6ccc12a9d3e7518d2b06dac191cb475bd91cf1ffcd4caae4fa5cee38161b56d", func := "undertow/undertowlaw10.DupBack", spec := "dupBack", unfollowed := true, recurses := true, apart := false, narrowed := true }
def DupBackUptoSaid : Prop := dupBackUptoRow.holds Try.pinned (OpenSpec.upto dupBackSpec)

/-- 'undertowlaw19.LedgerCounts', WHERE WHAT IT READS IS OF BULK AT MOST 1048576: true; the input reads as it did. -/
def ledgerCountsUptoRow : OpenClaim := { program := "ytaokiocpfpdmkaa", sum := "a6ccc12a9d3e7518d2b06dac191cb475bd91cf1ffcd4caae4fa5cee38161b56d", func := "undertow/undertowlaw19.LedgerCounts", spec := "ledgerCounts", unfollowed := true, recurses := true, apart := false, narrowed := true }
def LedgerCountsUptoSaid : Prop := ledgerCountsUptoRow.holds Try.pinned (OpenSpec.upto ledgerCountsSpec)

/-- 'undertowlaw19.LedgerAll', WHERE WHAT IT READS IS OF BULK AT MOST 1048576: true; the input reads as it did. -/
def ledgerAllUptoRow : OpenClaim := { program := "ytaokiocpfpdmkaa", sum := "a6ccc12a9d3e7518d2b06dac191cb475bd91cf1ffcd4caae4fa5cee38161b56d", func := "undertow/undertowlaw19.LedgerAll", spec := "ledgerAll", unfollowed := true, recurses := true, apart := false, narrowed := true }
def LedgerAllUptoSaid : Prop := ledgerAllUptoRow.holds Try.pinned (OpenSpec.upto ledgerAllSpec)

/-- 'undertowlaw19.LedgerPlays', WHERE WHAT IT READS IS OF BULK AT MOST 1048576: true; the input reads as it did. -/
def ledgerPlaysUptoRow : OpenClaim := { program := "ytaokiocpfpdmkaa", sum := "a6ccc12a9d3e7518d2b06dac191cb475bd91cf1ffcd4caae4fa5cee38161b56d", func := "undertow/undertowlaw19.LedgerPlays", spec := "ledgerPlays", unfollowed := true, recurses := true, apart := false, narrowed := true }
def LedgerPlaysUptoSaid : Prop := ledgerPlaysUptoRow.holds Try.pinned (OpenSpec.upto ledgerPlaysSpec)

/-- 'undertowlaw19.LedgerNone', WHERE WHAT IT READS IS OF BULK AT MOST 1048576: true; the input reads as it did. -/
def ledgerNoneUptoRow : OpenClaim := { program := "ytaokiocpfpdmkaa", sum := "a6ccc12a9d3e7518d2b06dac191cb475bd91cf1ffcd4caae4fa5cee38161b56d", func := "undertow/undertowlaw19.LedgerNone", spec := "ledgerNone", unfollowed := true, recurses := true, apart := false, narrowed := true }
def LedgerNoneUptoSaid : Prop := ledgerNoneUptoRow.holds Try.pinned (OpenSpec.upto ledgerNoneSpec)

/-- 'undertowlaw21.BufferKeeps', WHERE WHAT IT READS IS OF BULK AT MOST 1048576: true; the input reads as it did. -/
def bufferKeepsUptoRow : OpenClaim := { program := "ytaokiocpfpdmkaa", sum := "a6ccc12a9d3e7518d2b06dac191cb475bd91cf1ffcd4caae4fa5cee38161b56d", func := "undertow/undertowlaw21.BufferKeeps", spec := "bufferKeeps", apart := false, narrowed := true }
def BufferKeepsUptoSaid : Prop := bufferKeepsUptoRow.holds Try.pinned (OpenSpec.upto bufferKeepsSpec)

/-- 'undertowlaw21.BufferPlays', WHERE WHAT IT READS IS OF BULK AT MOST 1048576: true; the input reads as it did. -/
def bufferPlaysUptoRow : OpenClaim := { program := "ytaokiocpfpdmkaa", sum := "a6ccc12a9d3e7518d2b06dac191cb475bd91cf1ffcd4caae4fa5cee38161b56d", func := "undertow/undertowlaw21.BufferPlays", spec := "bufferPlays", apart := false, narrowed := true }
def BufferPlaysUptoSaid : Prop := bufferPlaysUptoRow.holds Try.pinned (OpenSpec.upto bufferPlaysSpec)

/-- 'undertowlaw21.BufferNone', WHERE WHAT IT READS IS OF BULK AT MOST 1048576: true; the input reads as it did. -/
def bufferNoneUptoRow : OpenClaim := { program := "ytaokiocpfpdmkaa", sum := "a6ccc12a9d3e7518d2b06dac191cb475bd91cf1ffcd4caae4fa5cee38161b56d", func := "undertow/undertowlaw21.BufferNone", spec := "bufferNone", apart := false, narrowed := true }
def BufferNoneUptoSaid : Prop := bufferNoneUptoRow.holds Try.pinned (OpenSpec.upto bufferNoneSpec)

end Rows
end Go.Proofs.Ytaokiocpfpdmkaa
