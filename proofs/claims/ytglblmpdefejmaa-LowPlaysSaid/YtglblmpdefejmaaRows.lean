/-
  No cell of these rows narrows 'for every input' (looked for: loops, veiled, ifaces, maps, wideKeys, modest, calm, conditions, laid).
  DERIVED. THE GIVEN ROWS OF THIS SEAT. 3 by the template 'for every input the law returns true; each argument reads behind the call as it read before'; 0 by the template 'total and deterministic' (their statements: YtglblmpdefejmaaTotals.lean).
  GIVEN WITH THE SEED: the statements are not yours to turn. If you find one false, say at which input.
  Laid BY PROGRAM, IN A SANDBOX (cutbox-rows.mjs): the forced cells as the released guide's own fill.sh prints them over the translation b4db9e164772e412… (all of the seat's roots in one cut). By AI agents, Wed Nov 11 2026. No macro, syntax, notation, axiom, sorry.
-/
import Derived.Test.YtglblmpdefejmaaChecked
import GoSem.Claim
import GoSem.ClaimJoined
import GoSem.ClaimMapViews
import Derived.JoinedTies
import Derived.KernelRfl
namespace Go.Proofs.Ytglblmpdefejmaa
/- THE CELL 'sum', in the pinned program and in every row, IS THE sha256 OF THE DUMP (.gsa) THAT YtglblmpdefejmaaProg.lean LOADS. Nothing in Lean hashes anything: it is a label: what it is worth is what the hold of that sum in a sandbox is worth. -/
noncomputable def Try.pinned : Pinned := { name := "ytglblmpdefejmaa", sum := "b4db9e164772e412433c72f1fc56ba294ac3766eccdd025d4f09651702854c46", checked := Try.checked }
namespace Rows
def none {H : Type} : Left H := { results := [], args := [] }

/-- 'undertowlaw12.LowFalls': WHATEVER THE INPUT: true; the input reads as it did. -/
def lowFallsSpec : ChangeSpec := { name := "lowFalls", fn := fun _ => fun
  | [d1, d2, d3, d4] => { results := [.lit (.bool true)], args := [d1, d2, d3, d4] }
  | _ => none }
def lowFallsRow : OpenClaim := { program := "ytglblmpdefejmaa", sum := "b4db9e164772e412433c72f1fc56ba294ac3766eccdd025d4f09651702854c46", func := "undertow/undertowlaw12.LowFalls", spec := "lowFalls", apart := false }
def LowFallsSaid : Prop := lowFallsRow.holds Try.pinned (OpenSpec.ofChange lowFallsSpec)

/-- ITS FALSE NEIGHBOUR: 'it returns false'. Refute it at one input. -/
def lowFallsWrong : ChangeSpec := { name := "lowFalls", fn := fun _ => fun
  | [d1, d2, d3, d4] => { results := [.lit (.bool false)], args := [d1, d2, d3, d4] }
  | _ => none }
def LowFallsWrongFalsely : Prop := lowFallsRow.holds Try.pinned (OpenSpec.ofChange lowFallsWrong)

/-- 'undertowlaw12.LowPlays': WHATEVER THE INPUT: true; the input reads as it did. -/
def lowPlaysSpec : ChangeSpec := { name := "lowPlays", fn := fun _ => fun
  | [d1, d2, d3] => { results := [.lit (.bool true)], args := [d1, d2, d3] }
  | _ => none }
def lowPlaysRow : OpenClaim := { program := "ytglblmpdefejmaa", sum := "b4db9e164772e412433c72f1fc56ba294ac3766eccdd025d4f09651702854c46", func := "undertow/undertowlaw12.LowPlays", spec := "lowPlays", apart := false }
def LowPlaysSaid : Prop := lowPlaysRow.holds Try.pinned (OpenSpec.ofChange lowPlaysSpec)

/-- ITS FALSE NEIGHBOUR: 'it returns false'. Refute it at one input. -/
def lowPlaysWrong : ChangeSpec := { name := "lowPlays", fn := fun _ => fun
  | [d1, d2, d3] => { results := [.lit (.bool false)], args := [d1, d2, d3] }
  | _ => none }
def LowPlaysWrongFalsely : Prop := lowPlaysRow.holds Try.pinned (OpenSpec.ofChange lowPlaysWrong)

/-- 'undertowlaw12.LowNone': WHATEVER THE INPUT: true; the input reads as it did. -/
def lowNoneSpec : ChangeSpec := { name := "lowNone", fn := fun _ => fun
  | [d1, d2] => { results := [.lit (.bool true)], args := [d1, d2] }
  | _ => none }
def lowNoneRow : OpenClaim := { program := "ytglblmpdefejmaa", sum := "b4db9e164772e412433c72f1fc56ba294ac3766eccdd025d4f09651702854c46", func := "undertow/undertowlaw12.LowNone", spec := "lowNone", apart := false }
def LowNoneSaid : Prop := lowNoneRow.holds Try.pinned (OpenSpec.ofChange lowNoneSpec)

/-- ITS FALSE NEIGHBOUR: 'it returns false'. Refute it at one input. -/
def lowNoneWrong : ChangeSpec := { name := "lowNone", fn := fun _ => fun
  | [d1, d2] => { results := [.lit (.bool false)], args := [d1, d2] }
  | _ => none }
def LowNoneWrongFalsely : Prop := lowNoneRow.holds Try.pinned (OpenSpec.ofChange lowNoneWrong)

/- THE SECOND FORM. 'bulk': how many values and letters a reading holds, each counted each time it is reached (what is shared counts as often as it is met; a slice's spare places count too). A statement '..UptoSaid' is the law's where the arguments, and the package variables that the reading takes, are together of bulk at most 1048576: NARROWER than '..Said'. Prove '..Said' where nothing that the law and all that it calls make is longer than what came in: it says more and counts as full. Else prove '..UptoSaid'. A law counts once. -/
mutual
def uptoBulk {H : Type} : DataW H → Nat
  | .lit (.string bytes) => bytes.length + 1
  | .lit _ => 1
  | .nil => 1
  | .ptr d => uptoBulk d + 1
  | .slice elems spare => uptoBulkAll elems + uptoBulkAll spare + 1
  | .agg parts => uptoBulkAll parts + 1
  | .iface _ d => uptoBulk d + 1
  | .map entries => uptoBulkEntries entries + 1
  | .held _ => 1
def uptoBulkAll {H : Type} : List (DataW H) → Nat
  | [] => 0
  | d :: r => uptoBulk d + uptoBulkAll r
def uptoBulkEntries {H : Type} : List (Lit × DataW H) → Nat
  | [] => 0
  | x :: r => uptoBulkEntry x + uptoBulkEntries r
def uptoBulkEntry {H : Type} : Lit × DataW H → Nat
  | (.string bytes, d) => bytes.length + uptoBulk d + 1
  | (_, d) => uptoBulk d + 1
 end
def uptoSmall : (H : Type) → List (DataW H) → Bool := fun _ ds => decide (uptoBulkAll ds ≤ 1048576)
def OpenSpec.upto (s : _root_.Go.ChangeSpec) : _root_.Go.OpenSpec := { _root_.Go.OpenSpec.ofChange s with cond := some uptoSmall }

/-- 'undertowlaw12.LowFalls', WHERE WHAT IT READS IS OF BULK AT MOST 1048576: true; the input reads as it did. -/
def lowFallsUptoRow : OpenClaim := { program := "ytglblmpdefejmaa", sum := "b4db9e164772e412433c72f1fc56ba294ac3766eccdd025d4f09651702854c46", func := "undertow/undertowlaw12.LowFalls", spec := "lowFalls", apart := false, narrowed := true }
def LowFallsUptoSaid : Prop := lowFallsUptoRow.holds Try.pinned (OpenSpec.upto lowFallsSpec)

/-- 'undertowlaw12.LowPlays', WHERE WHAT IT READS IS OF BULK AT MOST 1048576: true; the input reads as it did. -/
def lowPlaysUptoRow : OpenClaim := { program := "ytglblmpdefejmaa", sum := "b4db9e164772e412433c72f1fc56ba294ac3766eccdd025d4f09651702854c46", func := "undertow/undertowlaw12.LowPlays", spec := "lowPlays", apart := false, narrowed := true }
def LowPlaysUptoSaid : Prop := lowPlaysUptoRow.holds Try.pinned (OpenSpec.upto lowPlaysSpec)

/-- 'undertowlaw12.LowNone', WHERE WHAT IT READS IS OF BULK AT MOST 1048576: true; the input reads as it did. -/
def lowNoneUptoRow : OpenClaim := { program := "ytglblmpdefejmaa", sum := "b4db9e164772e412433c72f1fc56ba294ac3766eccdd025d4f09651702854c46", func := "undertow/undertowlaw12.LowNone", spec := "lowNone", apart := false, narrowed := true }
def LowNoneUptoSaid : Prop := lowNoneUptoRow.holds Try.pinned (OpenSpec.upto lowNoneSpec)

end Rows
end Go.Proofs.Ytglblmpdefejmaa
