/-
  No cell of these rows narrows 'for every input' (looked for: loops, veiled, ifaces, maps, wideKeys, modest, calm, conditions, laid).
  DERIVED. THE GIVEN ROWS OF THIS SEAT. 8 by the template 'for every input the law returns true; each argument reads behind the call as it read before'; 0 by the template 'total and deterministic' (their statements: YtiphkgkhfomcaaaTotals.lean).
  GIVEN WITH THE SEED: the statements are not yours to turn. If you find one false, say at which input.
  Laid BY PROGRAM, IN A SANDBOX (cutbox-rows.mjs): the forced cells as the released guide's own fill.sh prints them over the translation f3b67e31122e4904… (all of the seat's roots in one cut). By AI agents, Wed Nov 11 2026. No macro, syntax, notation, axiom, sorry.
-/
import Derived.Test.YtiphkgkhfomcaaaChecked
import GoSem.Claim
import GoSem.ClaimJoined
import GoSem.ClaimMapViews
import Derived.JoinedTies
import Derived.KernelRfl
namespace Go.Proofs.Ytiphkgkhfomcaaa
/- THE CELL 'sum', in the pinned program and in every row, IS THE sha256 OF THE DUMP (.gsa) THAT YtiphkgkhfomcaaaProg.lean LOADS. Nothing in Lean hashes anything: it is a label: what it is worth is what the hold of that sum in a sandbox is worth. -/
noncomputable def Try.pinned : Pinned := { name := "ytiphkgkhfomcaaa", sum := "f3b67e31122e4904245b4a7eb207b6fb7de479ec7c2ecc602ed49ff194bfe27d", checked := Try.checked }
namespace Rows
def none {H : Type} : Left H := { results := [], args := [] }

/-- 'undertowlaw13.AlarmOnce': WHATEVER THE INPUT: true; the input reads as it did. -/
def alarmOnceSpec : ChangeSpec := { name := "alarmOnce", fn := fun _ => fun
  | [d1, d2] => { results := [.lit (.bool true)], args := [d1, d2] }
  | _ => none }
def alarmOnceRow : OpenClaim := { program := "ytiphkgkhfomcaaa", sum := "f3b67e31122e4904245b4a7eb207b6fb7de479ec7c2ecc602ed49ff194bfe27d", func := "undertow/undertowlaw13.AlarmOnce", spec := "alarmOnce", unfollowed := true, recurses := true, apart := false }
def AlarmOnceSaid : Prop := alarmOnceRow.holds Try.pinned (OpenSpec.ofChange alarmOnceSpec)

/-- ITS FALSE NEIGHBOUR: 'it returns false'. Refute it at one input. -/
def alarmOnceWrong : ChangeSpec := { name := "alarmOnce", fn := fun _ => fun
  | [d1, d2] => { results := [.lit (.bool false)], args := [d1, d2] }
  | _ => none }
def AlarmOnceWrongFalsely : Prop := alarmOnceRow.holds Try.pinned (OpenSpec.ofChange alarmOnceWrong)

/-- 'undertowlaw13.AlarmParts': WHATEVER THE INPUT: true; the input reads as it did. -/
def alarmPartsSpec : ChangeSpec := { name := "alarmParts", fn := fun _ => fun
  | [d1, d2] => { results := [.lit (.bool true)], args := [d1, d2] }
  | _ => none }
def alarmPartsRow : OpenClaim := { program := "ytiphkgkhfomcaaa", sum := "f3b67e31122e4904245b4a7eb207b6fb7de479ec7c2ecc602ed49ff194bfe27d", func := "undertow/undertowlaw13.AlarmParts", spec := "alarmParts", unfollowed := true, recurses := true, apart := false }
def AlarmPartsSaid : Prop := alarmPartsRow.holds Try.pinned (OpenSpec.ofChange alarmPartsSpec)

/-- ITS FALSE NEIGHBOUR: 'it returns false'. Refute it at one input. -/
def alarmPartsWrong : ChangeSpec := { name := "alarmParts", fn := fun _ => fun
  | [d1, d2] => { results := [.lit (.bool false)], args := [d1, d2] }
  | _ => none }
def AlarmPartsWrongFalsely : Prop := alarmPartsRow.holds Try.pinned (OpenSpec.ofChange alarmPartsWrong)

/-- 'undertowlaw13.AlarmPlays': WHATEVER THE INPUT: true; the input reads as it did. -/
def alarmPlaysSpec : ChangeSpec := { name := "alarmPlays", fn := fun _ => fun
  | [d1, d2] => { results := [.lit (.bool true)], args := [d1, d2] }
  | _ => none }
def alarmPlaysRow : OpenClaim := { program := "ytiphkgkhfomcaaa", sum := "f3b67e31122e4904245b4a7eb207b6fb7de479ec7c2ecc602ed49ff194bfe27d", func := "undertow/undertowlaw13.AlarmPlays", spec := "alarmPlays", unfollowed := true, recurses := true, apart := false }
def AlarmPlaysSaid : Prop := alarmPlaysRow.holds Try.pinned (OpenSpec.ofChange alarmPlaysSpec)

/-- ITS FALSE NEIGHBOUR: 'it returns false'. Refute it at one input. -/
def alarmPlaysWrong : ChangeSpec := { name := "alarmPlays", fn := fun _ => fun
  | [d1, d2] => { results := [.lit (.bool false)], args := [d1, d2] }
  | _ => none }
def AlarmPlaysWrongFalsely : Prop := alarmPlaysRow.holds Try.pinned (OpenSpec.ofChange alarmPlaysWrong)

/-- 'undertowlaw13.AlarmNone': WHATEVER THE INPUT: true; the input reads as it did. -/
def alarmNoneSpec : ChangeSpec := { name := "alarmNone", fn := fun _ => fun
  | [d1, d2] => { results := [.lit (.bool true)], args := [d1, d2] }
  | _ => none }
def alarmNoneRow : OpenClaim := { program := "ytiphkgkhfomcaaa", sum := "f3b67e31122e4904245b4a7eb207b6fb7de479ec7c2ecc602ed49ff194bfe27d", func := "undertow/undertowlaw13.AlarmNone", spec := "alarmNone", unfollowed := true, recurses := true, apart := false }
def AlarmNoneSaid : Prop := alarmNoneRow.holds Try.pinned (OpenSpec.ofChange alarmNoneSpec)

/-- ITS FALSE NEIGHBOUR: 'it returns false'. Refute it at one input. -/
def alarmNoneWrong : ChangeSpec := { name := "alarmNone", fn := fun _ => fun
  | [d1, d2] => { results := [.lit (.bool false)], args := [d1, d2] }
  | _ => none }
def AlarmNoneWrongFalsely : Prop := alarmNoneRow.holds Try.pinned (OpenSpec.ofChange alarmNoneWrong)

/-- 'undertowlaw25.DuctOnce': WHATEVER THE INPUT: true; the input reads as it did. -/
def ductOnceSpec : ChangeSpec := { name := "ductOnce", fn := fun _ => fun
  | [d1, d2] => { results := [.lit (.bool true)], args := [d1, d2] }
  | _ => none }
def ductOnceRow : OpenClaim := { program := "ytiphkgkhfomcaaa", sum := "f3b67e31122e4904245b4a7eb207b6fb7de479ec7c2ecc602ed49ff194bfe27d", func := "undertow/undertowlaw25.DuctOnce", spec := "ductOnce", apart := false }
def DuctOnceSaid : Prop := ductOnceRow.holds Try.pinned (OpenSpec.ofChange ductOnceSpec)

/-- ITS FALSE NEIGHBOUR: 'it returns false'. Refute it at one input. -/
def ductOnceWrong : ChangeSpec := { name := "ductOnce", fn := fun _ => fun
  | [d1, d2] => { results := [.lit (.bool false)], args := [d1, d2] }
  | _ => none }
def DuctOnceWrongFalsely : Prop := ductOnceRow.holds Try.pinned (OpenSpec.ofChange ductOnceWrong)

/-- 'undertowlaw25.DuctFull': WHATEVER THE INPUT: true; the input reads as it did. -/
def ductFullSpec : ChangeSpec := { name := "ductFull", fn := fun _ => fun
  | [d] => { results := [.lit (.bool true)], args := [d] }
  | _ => none }
def ductFullRow : OpenClaim := { program := "ytiphkgkhfomcaaa", sum := "f3b67e31122e4904245b4a7eb207b6fb7de479ec7c2ecc602ed49ff194bfe27d", func := "undertow/undertowlaw25.DuctFull", spec := "ductFull", apart := false }
def DuctFullSaid : Prop := ductFullRow.holds Try.pinned (OpenSpec.ofChange ductFullSpec)

/-- ITS FALSE NEIGHBOUR: 'it returns false'. Refute it at one input. -/
def ductFullWrong : ChangeSpec := { name := "ductFull", fn := fun _ => fun
  | [d] => { results := [.lit (.bool false)], args := [d] }
  | _ => none }
def DuctFullWrongFalsely : Prop := ductFullRow.holds Try.pinned (OpenSpec.ofChange ductFullWrong)

/-- 'undertowlaw25.DuctPlays': WHATEVER THE INPUT: true; the input reads as it did. -/
def ductPlaysSpec : ChangeSpec := { name := "ductPlays", fn := fun _ => fun
  | [d1, d2] => { results := [.lit (.bool true)], args := [d1, d2] }
  | _ => none }
def ductPlaysRow : OpenClaim := { program := "ytiphkgkhfomcaaa", sum := "f3b67e31122e4904245b4a7eb207b6fb7de479ec7c2ecc602ed49ff194bfe27d", func := "undertow/undertowlaw25.DuctPlays", spec := "ductPlays", inPlace := ["maps.clone"], unfollowed := true, recurses := true, apart := false }
def DuctPlaysSaid : Prop := ductPlaysRow.holds Try.pinned (OpenSpec.ofChange ductPlaysSpec)

/-- ITS FALSE NEIGHBOUR: 'it returns false'. Refute it at one input. -/
def ductPlaysWrong : ChangeSpec := { name := "ductPlays", fn := fun _ => fun
  | [d1, d2] => { results := [.lit (.bool false)], args := [d1, d2] }
  | _ => none }
def DuctPlaysWrongFalsely : Prop := ductPlaysRow.holds Try.pinned (OpenSpec.ofChange ductPlaysWrong)

/-- 'undertowlaw25.DuctNone': WHATEVER THE INPUT: true; the input reads as it did. -/
def ductNoneSpec : ChangeSpec := { name := "ductNone", fn := fun _ => fun
  | [d1, d2] => { results := [.lit (.bool true)], args := [d1, d2] }
  | _ => none }
def ductNoneRow : OpenClaim := { program := "ytiphkgkhfomcaaa", sum := "f3b67e31122e4904245b4a7eb207b6fb7de479ec7c2ecc602ed49ff194bfe27d", func := "undertow/undertowlaw25.DuctNone", spec := "ductNone", inPlace := ["maps.clone"], unfollowed := true, recurses := true, apart := false }
def DuctNoneSaid : Prop := ductNoneRow.holds Try.pinned (OpenSpec.ofChange ductNoneSpec)

/-- ITS FALSE NEIGHBOUR: 'it returns false'. Refute it at one input. -/
def ductNoneWrong : ChangeSpec := { name := "ductNone", fn := fun _ => fun
  | [d1, d2] => { results := [.lit (.bool false)], args := [d1, d2] }
  | _ => none }
def DuctNoneWrongFalsely : Prop := ductNoneRow.holds Try.pinned (OpenSpec.ofChange ductNoneWrong)

/- THE SECOND FORM. 'bulk': how many values and letters a reading holds, each counted each time it is reached (what is shared counts as often as it is met; a slice's spare places count too). A statement '..UptoSaid' is the law's where the arguments, and the package variables that the reading takes, are together of bulk at most 1048576: NARROWER than '..Said'. Prove '..Said' where nothing that the law and all that it calls make is longer than what came in: it says more and counts as full. Else prove '..UptoSaid'. A law counts once. -/
mutual
def uptoBulk {H : Type} : DataW H → Nat
  | .lit (.string bytes) => bytes.length + 1
  | .lit _ => 1
  | .nil => 1
  | .ptr d => uptoBulk d + 1
  | .slice elems spare => uptoBulkAll elems + uptoBulkAll spare + 1
  | .agg parts => uptoBulkAll parts + 1
  | .iface _ d => uptoBulk d + 1
  | .map entries => uptoBulkEntries entries + 1
  | .held _ => 1
def uptoBulkAll {H : Type} : List (DataW H) → Nat
  | [] => 0
  | d :: r => uptoBulk d + uptoBulkAll r
def uptoBulkEntries {H : Type} : List (Lit × DataW H) → Nat
  | [] => 0
  | x :: r => uptoBulkEntry x + uptoBulkEntries r
def uptoBulkEntry {H : Type} : Lit × DataW H → Nat
  | (.string bytes, d) => bytes.length + uptoBulk d + 1
  | (_, d) => uptoBulk d + 1
 end
def uptoSmall : (H : Type) → List (DataW H) → Bool := fun _ ds => decide (uptoBulkAll ds ≤ 1048576)
def OpenSpec.upto (s : _root_.Go.ChangeSpec) : _root_.Go.OpenSpec := { _root_.Go.OpenSpec.ofChange s with cond := some uptoSmall }

/-- 'undertowlaw13.AlarmOnce', WHERE WHAT IT READS IS OF BULK AT MOST 1048576: true; the input reads as it did. -/
def alarmOnceUptoRow : OpenClaim := { program := "ytiphkgkhfomcaaa", sum := "f3b67e31122e4904245b4a7eb207b6fb7de479ec7c2ecc602ed49ff194bfe27d", func := "undertow/undertowlaw13.AlarmOnce", spec := "alarmOnce", unfollowed := true, recurses := true, apart := false, narrowed := true }
def AlarmOnceUptoSaid : Prop := alarmOnceUptoRow.holds Try.pinned (OpenSpec.upto alarmOnceSpec)

/-- 'undertowlaw13.AlarmParts', WHERE WHAT IT READS IS OF BULK AT MOST 1048576: true; the input reads as it did. -/
def alarmPartsUptoRow : OpenClaim := { program := "ytiphkgkhfomcaaa", sum := "f3b67e31122e4904245b4a7eb207b6fb7de479ec7c2ecc602ed49ff194bfe27d", func := "undertow/undertowlaw13.AlarmParts", spec := "alarmParts", unfollowed := true, recurses := true, apart := false, narrowed := true }
def AlarmPartsUptoSaid : Prop := alarmPartsUptoRow.holds Try.pinned (OpenSpec.upto alarmPartsSpec)

/-- 'undertowlaw13.AlarmPlays', WHERE WHAT IT READS IS OF BULK AT MOST 1048576: true; the input reads as it did. -/
def alarmPlaysUptoRow : OpenClaim := { program := "ytiphkgkhfomcaaa", sum := "f3b67e31122e4904245b4a7eb207b6fb7de479ec7c2ecc602ed49ff194bfe27d", func := "undertow/undertowlaw13.AlarmPlays", spec := "alarmPlays", unfollowed := true, recurses := true, apart := false, narrowed := true }
def AlarmPlaysUptoSaid : Prop := alarmPlaysUptoRow.holds Try.pinned (OpenSpec.upto alarmPlaysSpec)

/-- 'undertowlaw13.AlarmNone', WHERE WHAT IT READS IS OF BULK AT MOST 1048576: true; the input reads as it did. -/
def alarmNoneUptoRow : OpenClaim := { program := "ytiphkgkhfomcaaa", sum := "f3b67e31122e4904245b4a7eb207b6fb7de479ec7c2ecc602ed49ff194bfe27d", func := "undertow/undertowlaw13.AlarmNone", spec := "alarmNone", unfollowed := true, recurses := true, apart := false, narrowed := true }
def AlarmNoneUptoSaid : Prop := alarmNoneUptoRow.holds Try.pinned (OpenSpec.upto alarmNoneSpec)

/-- 'undertowlaw25.DuctOnce', WHERE WHAT IT READS IS OF BULK AT MOST 1048576: true; the input reads as it did. -/
def ductOnceUptoRow : OpenClaim := { program := "ytiphkgkhfomcaaa", sum := "f3b67e31122e4904245b4a7eb207b6fb7de479ec7c2ecc602ed49ff194bfe27d", func := "undertow/undertowlaw25.DuctOnce", spec := "ductOnce", apart := false, narrowed := true }
def DuctOnceUptoSaid : Prop := ductOnceUptoRow.holds Try.pinned (OpenSpec.upto ductOnceSpec)

/-- 'undertowlaw25.DuctFull', WHERE WHAT IT READS IS OF BULK AT MOST 1048576: true; the input reads as it did. -/
def ductFullUptoRow : OpenClaim := { program := "ytiphkgkhfomcaaa", sum := "f3b67e31122e4904245b4a7eb207b6fb7de479ec7c2ecc602ed49ff194bfe27d", func := "undertow/undertowlaw25.DuctFull", spec := "ductFull", apart := false, narrowed := true }
def DuctFullUptoSaid : Prop := ductFullUptoRow.holds Try.pinned (OpenSpec.upto ductFullSpec)

/-- 'undertowlaw25.DuctPlays', WHERE WHAT IT READS IS OF BULK AT MOST 1048576: true; the input reads as it did. -/
def ductPlaysUptoRow : OpenClaim := { program := "ytiphkgkhfomcaaa", sum := "f3b67e31122e4904245b4a7eb207b6fb7de479ec7c2ecc602ed49ff194bfe27d", func := "undertow/undertowlaw25.DuctPlays", spec := "ductPlays", inPlace := ["maps.clone"], unfollowed := true, recurses := true, apart := false, narrowed := true }
def DuctPlaysUptoSaid : Prop := ductPlaysUptoRow.holds Try.pinned (OpenSpec.upto ductPlaysSpec)

/-- 'undertowlaw25.DuctNone', WHERE WHAT IT READS IS OF BULK AT MOST 1048576: true; the input reads as it did. -/
def ductNoneUptoRow : OpenClaim := { program := "ytiphkgkhfomcaaa", sum := "f3b67e31122e4904245b4a7eb207b6fb7de479ec7c2ecc602ed49ff194bfe27d", func := "undertow/undertowlaw25.DuctNone", spec := "ductNone", inPlace := ["maps.clone"], unfollowed := true, recurses := true, apart := false, narrowed := true }
def DuctNoneUptoSaid : Prop := ductNoneUptoRow.holds Try.pinned (OpenSpec.upto ductNoneSpec)

end Rows
end Go.Proofs.Ytiphkgkhfomcaaa
