/-
  No cell of these rows narrows 'for every input' (looked for: loops, veiled, ifaces, maps, wideKeys, modest, calm, conditions, laid).
  DERIVED. THE GIVEN ROWS OF THIS SEAT. 4 by the template 'for every input the law returns true; each argument reads behind the call as it read before'; 0 by the template 'total and deterministic' (their statements: YtgahjgeopjdcfaaTotals.lean).
  GIVEN WITH THE SEED: the statements are not yours to turn. If you find one false, say at which input.
  Laid BY PROGRAM, IN A SANDBOX (cutbox-rows.mjs): the forced cells as the released guide's own fill.sh prints them over the translation 199fd8f2702f3cff… (all of the seat's roots in one cut). By AI agents, Wed Nov 11 2026. No macro, syntax, notation, axiom, sorry.
-/
import Derived.Test.YtgahjgeopjdcfaaChecked
import GoSem.Claim
import GoSem.ClaimJoined
import GoSem.ClaimMapViews
import Derived.JoinedTies
import Derived.KernelRfl
namespace Go.Proofs.Ytgahjgeopjdcfaa
/- THE CELL 'sum', in the pinned program and in every row, IS THE sha256 OF THE DUMP (.gsa) THAT YtgahjgeopjdcfaaProg.lean LOADS. Nothing in Lean hashes anything: it is a label: what it is worth is what the hold of that sum in a sandbox is worth. -/
noncomputable def Try.pinned : Pinned := { name := "ytgahjgeopjdcfaa", sum := "199fd8f2702f3cfff01dc5fb8e0cdf0b8dbb31ce494add9171347bd2273c4dad", checked := Try.checked }
namespace Rows
def none {H : Type} : Left H := { results := [], args := [] }

/-- 'undertowlaw18.PrrShares': WHATEVER THE INPUT: true; the input reads as it did. -/
def prrSharesSpec : ChangeSpec := { name := "prrShares", fn := fun _ => fun
  | [d1, d2, d3, d4] => { results := [.lit (.bool true)], args := [d1, d2, d3, d4] }
  | _ => none }
def prrSharesRow : OpenClaim := { program := "ytgahjgeopjdcfaa", sum := "199fd8f2702f3cfff01dc5fb8e0cdf0b8dbb31ce494add9171347bd2273c4dad", func := "undertow/undertowlaw18.PrrShares", spec := "prrShares", unfollowed := true, recurses := true, apart := false }
def PrrSharesSaid : Prop := prrSharesRow.holds Try.pinned (OpenSpec.ofChange prrSharesSpec)

/-- ITS FALSE NEIGHBOUR: 'it returns false'. Refute it at one input. -/
def prrSharesWrong : ChangeSpec := { name := "prrShares", fn := fun _ => fun
  | [d1, d2, d3, d4] => { results := [.lit (.bool false)], args := [d1, d2, d3, d4] }
  | _ => none }
def PrrSharesWrongFalsely : Prop := prrSharesRow.holds Try.pinned (OpenSpec.ofChange prrSharesWrong)

/-- 'undertowlaw18.PrrBound': WHATEVER THE INPUT: true; the input reads as it did. -/
def prrBoundSpec : ChangeSpec := { name := "prrBound", fn := fun _ => fun
  | [d1, d2, d3, d4] => { results := [.lit (.bool true)], args := [d1, d2, d3, d4] }
  | _ => none }
def prrBoundRow : OpenClaim := { program := "ytgahjgeopjdcfaa", sum := "199fd8f2702f3cfff01dc5fb8e0cdf0b8dbb31ce494add9171347bd2273c4dad", func := "undertow/undertowlaw18.PrrBound", spec := "prrBound", unfollowed := true, recurses := true, apart := false }
def PrrBoundSaid : Prop := prrBoundRow.holds Try.pinned (OpenSpec.ofChange prrBoundSpec)

/-- ITS FALSE NEIGHBOUR: 'it returns false'. Refute it at one input. -/
def prrBoundWrong : ChangeSpec := { name := "prrBound", fn := fun _ => fun
  | [d1, d2, d3, d4] => { results := [.lit (.bool false)], args := [d1, d2, d3, d4] }
  | _ => none }
def PrrBoundWrongFalsely : Prop := prrBoundRow.holds Try.pinned (OpenSpec.ofChange prrBoundWrong)

/-- 'undertowlaw18.PrrPlays': WHATEVER THE INPUT: true; the input reads as it did. -/
def prrPlaysSpec : ChangeSpec := { name := "prrPlays", fn := fun _ => fun
  | [d1, d2, d3, d4] => { results := [.lit (.bool true)], args := [d1, d2, d3, d4] }
  | _ => none }
def prrPlaysRow : OpenClaim := { program := "ytgahjgeopjdcfaa", sum := "199fd8f2702f3cfff01dc5fb8e0cdf0b8dbb31ce494add9171347bd2273c4dad", func := "undertow/undertowlaw18.PrrPlays", spec := "prrPlays", unfollowed := true, recurses := true, apart := false }
def PrrPlaysSaid : Prop := prrPlaysRow.holds Try.pinned (OpenSpec.ofChange prrPlaysSpec)

/-- ITS FALSE NEIGHBOUR: 'it returns false'. Refute it at one input. -/
def prrPlaysWrong : ChangeSpec := { name := "prrPlays", fn := fun _ => fun
  | [d1, d2, d3, d4] => { results := [.lit (.bool false)], args := [d1, d2, d3, d4] }
  | _ => none }
def PrrPlaysWrongFalsely : Prop := prrPlaysRow.holds Try.pinned (OpenSpec.ofChange prrPlaysWrong)

/-- 'undertowlaw18.PrrNone': WHATEVER THE INPUT: true; the input reads as it did. -/
def prrNoneSpec : ChangeSpec := { name := "prrNone", fn := fun _ => fun
  | [d1, d2] => { results := [.lit (.bool true)], args := [d1, d2] }
  | _ => none }
def prrNoneRow : OpenClaim := { program := "ytgahjgeopjdcfaa", sum := "199fd8f2702f3cfff01dc5fb8e0cdf0b8dbb31ce494add9171347bd2273c4dad", func := "undertow/undertowlaw18.PrrNone", spec := "prrNone", unfollowed := true, recurses := true, apart := false }
def PrrNoneSaid : Prop := prrNoneRow.holds Try.pinned (OpenSpec.ofChange prrNoneSpec)

/-- ITS FALSE NEIGHBOUR: 'it returns false'. Refute it at one input. -/
def prrNoneWrong : ChangeSpec := { name := "prrNone", fn := fun _ => fun
  | [d1, d2] => { results := [.lit (.bool false)], args := [d1, d2] }
  | _ => none }
def PrrNoneWrongFalsely : Prop := prrNoneRow.holds Try.pinned (OpenSpec.ofChange prrNoneWrong)

/- THE SECOND FORM. 'bulk': how many values and letters a reading holds, each counted each time it is reached (what is shared counts as often as it is met; a slice's spare places count too). A statement '..UptoSaid' is the law's where the arguments, and the package variables that the reading takes, are together of bulk at most 1048576: NARROWER than '..Said'. Prove '..Said' where nothing that the law and all that it calls make is longer than what came in: it says more and counts as full. Else prove '..UptoSaid'. A law counts once. -/
mutual
def uptoBulk {H : Type} : DataW H → Nat
  | .lit (.string bytes) => bytes.length + 1
  | .lit _ => 1
  | .nil => 1
  | .ptr d => uptoBulk d + 1
  | .slice elems spare => uptoBulkAll elems + uptoBulkAll spare + 1
  | .agg parts => uptoBulkAll parts + 1
  | .iface _ d => uptoBulk d + 1
  | .map entries => uptoBulkEntries entries + 1
  | .held _ => 1
def uptoBulkAll {H : Type} : List (DataW H) → Nat
  | [] => 0
  | d :: r => uptoBulk d + uptoBulkAll r
def uptoBulkEntries {H : Type} : List (Lit × DataW H) → Nat
  | [] => 0
  | x :: r => uptoBulkEntry x + uptoBulkEntries r
def uptoBulkEntry {H : Type} : Lit × DataW H → Nat
  | (.string bytes, d) => bytes.length + uptoBulk d + 1
  | (_, d) => uptoBulk d + 1
 end
def uptoSmall : (H : Type) → List (DataW H) → Bool := fun _ ds => decide (uptoBulkAll ds ≤ 1048576)
def OpenSpec.upto (s : _root_.Go.ChangeSpec) : _root_.Go.OpenSpec := { _root_.Go.OpenSpec.ofChange s with cond := some uptoSmall }

/-- 'undertowlaw18.PrrShares', WHERE WHAT IT READS IS OF BULK AT MOST 1048576: true; the input reads as it did. -/
def prrSharesUptoRow : OpenClaim := { program := "ytgahjgeopjdcfaa", sum := "199fd8f2702f3cfff01dc5fb8e0cdf0b8dbb31ce494add9171347bd2273c4dad", func := "undertow/undertowlaw18.PrrShares", spec := "prrShares", unfollowed := true, recurses := true, apart := false, narrowed := true }
def PrrSharesUptoSaid : Prop := prrSharesUptoRow.holds Try.pinned (OpenSpec.upto prrSharesSpec)

/-- 'undertowlaw18.PrrBound', WHERE WHAT IT READS IS OF BULK AT MOST 1048576: true; the input reads as it did. -/
def prrBoundUptoRow : OpenClaim := { program := "ytgahjgeopjdcfaa", sum := "199fd8f2702f3cfff01dc5fb8e0cdf0b8dbb31ce494add9171347bd2273c4dad", func := "undertow/undertowlaw18.PrrBound", spec := "prrBound", unfollowed := true, recurses := true, apart := false, narrowed := true }
def PrrBoundUptoSaid : Prop := prrBoundUptoRow.holds Try.pinned (OpenSpec.upto prrBoundSpec)

/-- 'undertowlaw18.PrrPlays', WHERE WHAT IT READS IS OF BULK AT MOST 1048576: true; the input reads as it did. -/
def prrPlaysUptoRow : OpenClaim := { program := "ytgahjgeopjdcfaa", sum := "199fd8f2702f3cfff01dc5fb8e0cdf0b8dbb31ce494add9171347bd2273c4dad", func := "undertow/undertowlaw18.PrrPlays", spec := "prrPlays", unfollowed := true, recurses := true, apart := false, narrowed := true }
def PrrPlaysUptoSaid : Prop := prrPlaysUptoRow.holds Try.pinned (OpenSpec.upto prrPlaysSpec)

/-- 'undertowlaw18.PrrNone', WHERE WHAT IT READS IS OF BULK AT MOST 1048576: true; the input reads as it did. -/
def prrNoneUptoRow : OpenClaim := { program := "ytgahjgeopjdcfaa", sum := "199fd8f2702f3cfff01dc5fb8e0cdf0b8dbb31ce494add9171347bd2273c4dad", func := "undertow/undertowlaw18.PrrNone", spec := "prrNone", unfollowed := true, recurses := true, apart := false, narrowed := true }
def PrrNoneUptoSaid : Prop := prrNoneUptoRow.holds Try.pinned (OpenSpec.upto prrNoneSpec)

end Rows
end Go.Proofs.Ytgahjgeopjdcfaa
