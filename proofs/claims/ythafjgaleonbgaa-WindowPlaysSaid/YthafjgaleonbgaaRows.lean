/-
  No cell of these rows narrows 'for every input' (looked for: loops, veiled, ifaces, maps, wideKeys, modest, calm, conditions, laid).
  DERIVED. THE GIVEN ROWS OF THIS SEAT. 11 by the template 'for every input the law returns true; each argument reads behind the call as it read before'; 0 by the template 'total and deterministic' (their statements: YthafjgaleonbgaaTotals.lean).
  GIVEN WITH THE SEED: the statements are not yours to turn. If you find one false, say at which input.
  Laid BY PROGRAM, IN A SANDBOX (cutbox-rows.mjs): the forced cells as the released guide's own fill.sh prints them over the translation 9aac3b90e3660b6b… (all of the seat's roots in one cut). By AI agents, Wed Nov 11 2026. No macro, syntax, notation, axiom, sorry.
-/
import Derived.Test.YthafjgaleonbgaaChecked
import GoSem.Claim
import GoSem.ClaimJoined
import GoSem.ClaimMapViews
import Derived.JoinedTies
import Derived.KernelRfl
namespace Go.Proofs.Ythafjgaleonbgaa
/- THE CELL 'sum', in the pinned program and in every row, IS THE sha256 OF THE DUMP (.gsa) THAT YthafjgaleonbgaaProg.lean LOADS. Nothing in Lean hashes anything: it is a label: what it is worth is what the hold of that sum in a sandbox is worth. -/
noncomputable def Try.pinned : Pinned := { name := "ythafjgaleonbgaa", sum := "9aac3b90e3660b6bc0724ca3a005386abf95f37873e38e60bfdb7be3703ec5ce", checked := Try.checked }
namespace Rows
def none {H : Type} : Left H := { results := [], args := [] }

/-- 'undertowlaw17.WindowRound': WHATEVER THE INPUT: true; the input reads as it did. -/
def windowRoundSpec : ChangeSpec := { name := "windowRound", fn := fun _ => fun
  | [d1, d2, d3] => { results := [.lit (.bool true)], args := [d1, d2, d3] }
  | _ => none }
def windowRoundRow : OpenClaim := { program := "ythafjgaleonbgaa", sum := "9aac3b90e3660b6bc0724ca3a005386abf95f37873e38e60bfdb7be3703ec5ce", func := "undertow/undertowlaw17.WindowRound", spec := "windowRound", unfollowed := true, recurses := true, apart := false }
def WindowRoundSaid : Prop := windowRoundRow.holds Try.pinned (OpenSpec.ofChange windowRoundSpec)

/-- ITS FALSE NEIGHBOUR: 'it returns false'. Refute it at one input. -/
def windowRoundWrong : ChangeSpec := { name := "windowRound", fn := fun _ => fun
  | [d1, d2, d3] => { results := [.lit (.bool false)], args := [d1, d2, d3] }
  | _ => none }
def WindowRoundWrongFalsely : Prop := windowRoundRow.holds Try.pinned (OpenSpec.ofChange windowRoundWrong)

/-- 'undertowlaw17.WindowLifts': WHATEVER THE INPUT: true; the input reads as it did. -/
def windowLiftsSpec : ChangeSpec := { name := "windowLifts", fn := fun _ => fun
  | [d1, d2, d3, d4, d5, d6] => { results := [.lit (.bool true)], args := [d1, d2, d3, d4, d5, d6] }
  | _ => none }
def windowLiftsRow : OpenClaim := { program := "ythafjgaleonbgaa", sum := "9aac3b90e3660b6bc0724ca3a005386abf95f37873e38e60bfdb7be3703ec5ce", func := "undertow/undertowlaw17.WindowLifts", spec := "windowLifts", unfollowed := true, recurses := true, apart := false }
def WindowLiftsSaid : Prop := windowLiftsRow.holds Try.pinned (OpenSpec.ofChange windowLiftsSpec)

/-- ITS FALSE NEIGHBOUR: 'it returns false'. Refute it at one input. -/
def windowLiftsWrong : ChangeSpec := { name := "windowLifts", fn := fun _ => fun
  | [d1, d2, d3, d4, d5, d6] => { results := [.lit (.bool false)], args := [d1, d2, d3, d4, d5, d6] }
  | _ => none }
def WindowLiftsWrongFalsely : Prop := windowLiftsRow.holds Try.pinned (OpenSpec.ofChange windowLiftsWrong)

/-- 'undertowlaw17.WindowPlays': WHATEVER THE INPUT: true; the input reads as it did. -/
def windowPlaysSpec : ChangeSpec := { name := "windowPlays", fn := fun _ => fun
  | [d1, d2, d3, d4] => { results := [.lit (.bool true)], args := [d1, d2, d3, d4] }
  | _ => none }
def windowPlaysRow : OpenClaim := { program := "ythafjgaleonbgaa", sum := "9aac3b90e3660b6bc0724ca3a005386abf95f37873e38e60bfdb7be3703ec5ce", func := "undertow/undertowlaw17.WindowPlays", spec := "windowPlays", unfollowed := true, recurses := true, apart := false }
def WindowPlaysSaid : Prop := windowPlaysRow.holds Try.pinned (OpenSpec.ofChange windowPlaysSpec)

/-- ITS FALSE NEIGHBOUR: 'it returns false'. Refute it at one input. -/
def windowPlaysWrong : ChangeSpec := { name := "windowPlays", fn := fun _ => fun
  | [d1, d2, d3, d4] => { results := [.lit (.bool false)], args := [d1, d2, d3, d4] }
  | _ => none }
def WindowPlaysWrongFalsely : Prop := windowPlaysRow.holds Try.pinned (OpenSpec.ofChange windowPlaysWrong)

/-- 'undertowlaw17.WindowNone': WHATEVER THE INPUT: true; the input reads as it did. -/
def windowNoneSpec : ChangeSpec := { name := "windowNone", fn := fun _ => fun
  | [d] => { results := [.lit (.bool true)], args := [d] }
  | _ => none }
def windowNoneRow : OpenClaim := { program := "ythafjgaleonbgaa", sum := "9aac3b90e3660b6bc0724ca3a005386abf95f37873e38e60bfdb7be3703ec5ce", func := "undertow/undertowlaw17.WindowNone", spec := "windowNone", unfollowed := true, recurses := true, apart := false }
def WindowNoneSaid : Prop := windowNoneRow.holds Try.pinned (OpenSpec.ofChange windowNoneSpec)

/-- ITS FALSE NEIGHBOUR: 'it returns false'. Refute it at one input. -/
def windowNoneWrong : ChangeSpec := { name := "windowNone", fn := fun _ => fun
  | [d] => { results := [.lit (.bool false)], args := [d] }
  | _ => none }
def WindowNoneWrongFalsely : Prop := windowNoneRow.holds Try.pinned (OpenSpec.ofChange windowNoneWrong)

/-- 'undertowlaw11.RttWithin': WHATEVER THE INPUT: true; the input reads as it did. -/
def rttWithinSpec : ChangeSpec := { name := "rttWithin", fn := fun _ => fun
  | [d1, d2, d3] => { results := [.lit (.bool true)], args := [d1, d2, d3] }
  | _ => none }
def rttWithinRow : OpenClaim := { program := "ythafjgaleonbgaa", sum := "9aac3b90e3660b6bc0724ca3a005386abf95f37873e38e60bfdb7be3703ec5ce", func := "undertow/undertowlaw11.RttWithin", spec := "rttWithin", apart := false }
def RttWithinSaid : Prop := rttWithinRow.holds Try.pinned (OpenSpec.ofChange rttWithinSpec)

/-- ITS FALSE NEIGHBOUR: 'it returns false'. Refute it at one input. -/
def rttWithinWrong : ChangeSpec := { name := "rttWithin", fn := fun _ => fun
  | [d1, d2, d3] => { results := [.lit (.bool false)], args := [d1, d2, d3] }
  | _ => none }
def RttWithinWrongFalsely : Prop := rttWithinRow.holds Try.pinned (OpenSpec.ofChange rttWithinWrong)

/-- 'undertowlaw11.RttSteady': WHATEVER THE INPUT: true; the input reads as it did. -/
def rttSteadySpec : ChangeSpec := { name := "rttSteady", fn := fun _ => fun
  | [d1, d2, d3, d4] => { results := [.lit (.bool true)], args := [d1, d2, d3, d4] }
  | _ => none }
def rttSteadyRow : OpenClaim := { program := "ythafjgaleonbgaa", sum := "9aac3b90e3660b6bc0724ca3a005386abf95f37873e38e60bfdb7be3703ec5ce", func := "undertow/undertowlaw11.RttSteady", spec := "rttSteady", apart := false }
def RttSteadySaid : Prop := rttSteadyRow.holds Try.pinned (OpenSpec.ofChange rttSteadySpec)

/-- ITS FALSE NEIGHBOUR: 'it returns false'. Refute it at one input. -/
def rttSteadyWrong : ChangeSpec := { name := "rttSteady", fn := fun _ => fun
  | [d1, d2, d3, d4] => { results := [.lit (.bool false)], args := [d1, d2, d3, d4] }
  | _ => none }
def RttSteadyWrongFalsely : Prop := rttSteadyRow.holds Try.pinned (OpenSpec.ofChange rttSteadyWrong)

/-- 'undertowlaw11.RttPlays': WHATEVER THE INPUT: true; the input reads as it did. -/
def rttPlaysSpec : ChangeSpec := { name := "rttPlays", fn := fun _ => fun
  | [d1, d2, d3] => { results := [.lit (.bool true)], args := [d1, d2, d3] }
  | _ => none }
def rttPlaysRow : OpenClaim := { program := "ythafjgaleonbgaa", sum := "9aac3b90e3660b6bc0724ca3a005386abf95f37873e38e60bfdb7be3703ec5ce", func := "undertow/undertowlaw11.RttPlays", spec := "rttPlays", apart := false }
def RttPlaysSaid : Prop := rttPlaysRow.holds Try.pinned (OpenSpec.ofChange rttPlaysSpec)

/-- ITS FALSE NEIGHBOUR: 'it returns false'. Refute it at one input. -/
def rttPlaysWrong : ChangeSpec := { name := "rttPlays", fn := fun _ => fun
  | [d1, d2, d3] => { results := [.lit (.bool false)], args := [d1, d2, d3] }
  | _ => none }
def RttPlaysWrongFalsely : Prop := rttPlaysRow.holds Try.pinned (OpenSpec.ofChange rttPlaysWrong)

/-- 'undertowlaw11.RttNone': WHATEVER THE INPUT: true; the input reads as it did. -/
def rttNoneSpec : ChangeSpec := { name := "rttNone", fn := fun _ => fun
  | [d] => { results := [.lit (.bool true)], args := [d] }
  | _ => none }
def rttNoneRow : OpenClaim := { program := "ythafjgaleonbgaa", sum := "9aac3b90e3660b6bc0724ca3a005386abf95f37873e38e60bfdb7be3703ec5ce", func := "undertow/undertowlaw11.RttNone", spec := "rttNone", apart := false }
def RttNoneSaid : Prop := rttNoneRow.holds Try.pinned (OpenSpec.ofChange rttNoneSpec)

/-- ITS FALSE NEIGHBOUR: 'it returns false'. Refute it at one input. -/
def rttNoneWrong : ChangeSpec := { name := "rttNone", fn := fun _ => fun
  | [d] => { results := [.lit (.bool false)], args := [d] }
  | _ => none }
def RttNoneWrongFalsely : Prop := rttNoneRow.holds Try.pinned (OpenSpec.ofChange rttNoneWrong)

/-- 'undertowlaw16.ProbeOnce': WHATEVER THE INPUT: true; the input reads as it did. -/
def probeOnceSpec : ChangeSpec := { name := "probeOnce", fn := fun _ => fun
  | [d1, d2, d3] => { results := [.lit (.bool true)], args := [d1, d2, d3] }
  | _ => none }
def probeOnceRow : OpenClaim := { program := "ythafjgaleonbgaa", sum := "9aac3b90e3660b6bc0724ca3a005386abf95f37873e38e60bfdb7be3703ec5ce", func := "undertow/undertowlaw16.ProbeOnce", spec := "probeOnce", unfollowed := true, recurses := true, apart := false }
def ProbeOnceSaid : Prop := probeOnceRow.holds Try.pinned (OpenSpec.ofChange probeOnceSpec)

/-- ITS FALSE NEIGHBOUR: 'it returns false'. Refute it at one input. -/
def probeOnceWrong : ChangeSpec := { name := "probeOnce", fn := fun _ => fun
  | [d1, d2, d3] => { results := [.lit (.bool false)], args := [d1, d2, d3] }
  | _ => none }
def ProbeOnceWrongFalsely : Prop := probeOnceRow.holds Try.pinned (OpenSpec.ofChange probeOnceWrong)

/-- 'undertowlaw16.ProbeNone': WHATEVER THE INPUT: true; the input reads as it did. -/
def probeNoneSpec : ChangeSpec := { name := "probeNone", fn := fun _ => fun
  | [d] => { results := [.lit (.bool true)], args := [d] }
  | _ => none }
def probeNoneRow : OpenClaim := { program := "ythafjgaleonbgaa", sum := "9aac3b90e3660b6bc0724ca3a005386abf95f37873e38e60bfdb7be3703ec5ce", func := "undertow/undertowlaw16.ProbeNone", spec := "probeNone", unfollowed := true, recurses := true, apart := false }
def ProbeNoneSaid : Prop := probeNoneRow.holds Try.pinned (OpenSpec.ofChange probeNoneSpec)

/-- ITS FALSE NEIGHBOUR: 'it returns false'. Refute it at one input. -/
def probeNoneWrong : ChangeSpec := { name := "probeNone", fn := fun _ => fun
  | [d] => { results := [.lit (.bool false)], args := [d] }
  | _ => none }
def ProbeNoneWrongFalsely : Prop := probeNoneRow.holds Try.pinned (OpenSpec.ofChange probeNoneWrong)

/-- 'undertowlaw16.ProbeWaits': WHATEVER THE INPUT: true; the input reads as it did. -/
def probeWaitsSpec : ChangeSpec := { name := "probeWaits", fn := fun _ => fun
  | [d1, d2, d3, d4] => { results := [.lit (.bool true)], args := [d1, d2, d3, d4] }
  | _ => none }
def probeWaitsRow : OpenClaim := { program := "ythafjgaleonbgaa", sum := "9aac3b90e3660b6bc0724ca3a005386abf95f37873e38e60bfdb7be3703ec5ce", func := "undertow/undertowlaw16.ProbeWaits", spec := "probeWaits", unfollowed := true, recurses := true, apart := false }
def ProbeWaitsSaid : Prop := probeWaitsRow.holds Try.pinned (OpenSpec.ofChange probeWaitsSpec)

/-- ITS FALSE NEIGHBOUR: 'it returns false'. Refute it at one input. -/
def probeWaitsWrong : ChangeSpec := { name := "probeWaits", fn := fun _ => fun
  | [d1, d2, d3, d4] => { results := [.lit (.bool false)], args := [d1, d2, d3, d4] }
  | _ => none }
def ProbeWaitsWrongFalsely : Prop := probeWaitsRow.holds Try.pinned (OpenSpec.ofChange probeWaitsWrong)

/- THE SECOND FORM. 'bulk': how many values and letters a reading holds, each counted each time it is reached (what is shared counts as often as it is met; a slice's spare places count too). A statement '..UptoSaid' is the law's where the arguments, and the package variables that the reading takes, are together of bulk at most 1048576: NARROWER than '..Said'. Prove '..Said' where nothing that the law and all that it calls make is longer than what came in: it says more and counts as full. Else prove '..UptoSaid'. A law counts once. -/
mutual
def uptoBulk {H : Type} : DataW H → Nat
  | .lit (.string bytes) => bytes.length + 1
  | .lit _ => 1
  | .nil => 1
  | .ptr d => uptoBulk d + 1
  | .slice elems spare => uptoBulkAll elems + uptoBulkAll spare + 1
  | .agg parts => uptoBulkAll parts + 1
  | .iface _ d => uptoBulk d + 1
  | .map entries => uptoBulkEntries entries + 1
  | .held _ => 1
def uptoBulkAll {H : Type} : List (DataW H) → Nat
  | [] => 0
  | d :: r => uptoBulk d + uptoBulkAll r
def uptoBulkEntries {H : Type} : List (Lit × DataW H) → Nat
  | [] => 0
  | x :: r => uptoBulkEntry x + uptoBulkEntries r
def uptoBulkEntry {H : Type} : Lit × DataW H → Nat
  | (.string bytes, d) => bytes.length + uptoBulk d + 1
  | (_, d) => uptoBulk d + 1
 end
def uptoSmall : (H : Type) → List (DataW H) → Bool := fun _ ds => decide (uptoBulkAll ds ≤ 1048576)
def OpenSpec.upto (s : _root_.Go.ChangeSpec) : _root_.Go.OpenSpec := { _root_.Go.OpenSpec.ofChange s with cond := some uptoSmall }

/-- 'undertowlaw17.WindowRound', WHERE WHAT IT READS IS OF BULK AT MOST 1048576: true; the input reads as it did. -/
def windowRoundUptoRow : OpenClaim := { program := "ythafjgaleonbgaa", sum := "9aac3b90e3660b6bc0724ca3a005386abf95f37873e38e60bfdb7be3703ec5ce", func := "undertow/undertowlaw17.WindowRound", spec := "windowRound", unfollowed := true, recurses := true, apart := false, narrowed := true }
def WindowRoundUptoSaid : Prop := windowRoundUptoRow.holds Try.pinned (OpenSpec.upto windowRoundSpec)

/-- 'undertowlaw17.WindowLifts', WHERE WHAT IT READS IS OF BULK AT MOST 1048576: true; the input reads as it did. -/
def windowLiftsUptoRow : OpenClaim := { program := "ythafjgaleonbgaa", sum := "9aac3b90e3660b6bc0724ca3a005386abf95f37873e38e60bfdb7be3703ec5ce", func := "undertow/undertowlaw17.WindowLifts", spec := "windowLifts", unfollowed := true, recurses := true, apart := false, narrowed := true }
def WindowLiftsUptoSaid : Prop := windowLiftsUptoRow.holds Try.pinned (OpenSpec.upto windowLiftsSpec)

/-- 'undertowlaw17.WindowPlays', WHERE WHAT IT READS IS OF BULK AT MOST 1048576: true; the input reads as it did. -/
def windowPlaysUptoRow : OpenClaim := { program := "ythafjgaleonbgaa", sum := "9aac3b90e3660b6bc0724ca3a005386abf95f37873e38e60bfdb7be3703ec5ce", func := "undertow/undertowlaw17.WindowPlays", spec := "windowPlays", unfollowed := true, recurses := true, apart := false, narrowed := true }
def WindowPlaysUptoSaid : Prop := windowPlaysUptoRow.holds Try.pinned (OpenSpec.upto windowPlaysSpec)

/-- 'undertowlaw17.WindowNone', WHERE WHAT IT READS IS OF BULK AT MOST 1048576: true; the input reads as it did. -/
def windowNoneUptoRow : OpenClaim := { program := "ythafjgaleonbgaa", sum := "9aac3b90e3660b6bc0724ca3a005386abf95f37873e38e60bfdb7be3703ec5ce", func := "undertow/undertowlaw17.WindowNone", spec := "windowNone", unfollowed := true, recurses := true, apart := false, narrowed := true }
def WindowNoneUptoSaid : Prop := windowNoneUptoRow.holds Try.pinned (OpenSpec.upto windowNoneSpec)

/-- 'undertowlaw11.RttWithin', WHERE WHAT IT READS IS OF BULK AT MOST 1048576: true; the input reads as it did. -/
def rttWithinUptoRow : OpenClaim := { program := "ythafjgaleonbgaa", sum := "9aac3b90e3660b6bc0724ca3a005386abf95f37873e38e60bfdb7be3703ec5ce", func := "undertow/undertowlaw11.RttWithin", spec := "rttWithin", apart := false, narrowed := true }
def RttWithinUptoSaid : Prop := rttWithinUptoRow.holds Try.pinned (OpenSpec.upto rttWithinSpec)

/-- 'undertowlaw11.RttSteady', WHERE WHAT IT READS IS OF BULK AT MOST 1048576: true; the input reads as it did. -/
def rttSteadyUptoRow : OpenClaim := { program := "ythafjgaleonbgaa", sum := "9aac3b90e3660b6bc0724ca3a005386abf95f37873e38e60bfdb7be3703ec5ce", func := "undertow/undertowlaw11.RttSteady", spec := "rttSteady", apart := false, narrowed := true }
def RttSteadyUptoSaid : Prop := rttSteadyUptoRow.holds Try.pinned (OpenSpec.upto rttSteadySpec)

/-- 'undertowlaw11.RttPlays', WHERE WHAT IT READS IS OF BULK AT MOST 1048576: true; the input reads as it did. -/
def rttPlaysUptoRow : OpenClaim := { program := "ythafjgaleonbgaa", sum := "9aac3b90e3660b6bc0724ca3a005386abf95f37873e38e60bfdb7be3703ec5ce", func := "undertow/undertowlaw11.RttPlays", spec := "rttPlays", apart := false, narrowed := true }
def RttPlaysUptoSaid : Prop := rttPlaysUptoRow.holds Try.pinned (OpenSpec.upto rttPlaysSpec)

/-- 'undertowlaw11.RttNone', WHERE WHAT IT READS IS OF BULK AT MOST 1048576: true; the input reads as it did. -/
def rttNoneUptoRow : OpenClaim := { program := "ythafjgaleonbgaa", sum := "9aac3b90e3660b6bc0724ca3a005386abf95f37873e38e60bfdb7be3703ec5ce", func := "undertow/undertowlaw11.RttNone", spec := "rttNone", apart := false, narrowed := true }
def RttNoneUptoSaid : Prop := rttNoneUptoRow.holds Try.pinned (OpenSpec.upto rttNoneSpec)

/-- 'undertowlaw16.ProbeOnce', WHERE WHAT IT READS IS OF BULK AT MOST 1048576: true; the input reads as it did. -/
def probeOnceUptoRow : OpenClaim := { program := "ythafjgaleonbgaa", sum := "9aac3b90e3660b6bc0724ca3a005386abf95f37873e38e60bfdb7be3703ec5ce", func := "undertow/undertowlaw16.ProbeOnce", spec := "probeOnce", unfollowed := true, recurses := true, apart := false, narrowed := true }
def ProbeOnceUptoSaid : Prop := probeOnceUptoRow.holds Try.pinned (OpenSpec.upto probeOnceSpec)

/-- 'undertowlaw16.ProbeNone', WHERE WHAT IT READS IS OF BULK AT MOST 1048576: true; the input reads as it did. -/
def probeNoneUptoRow : OpenClaim := { program := "ythafjgaleonbgaa", sum := "9aac3b90e3660b6bc0724ca3a005386abf95f37873e38e60bfdb7be3703ec5ce", func := "undertow/undertowlaw16.ProbeNone", spec := "probeNone", unfollowed := true, recurses := true, apart := false, narrowed := true }
def ProbeNoneUptoSaid : Prop := probeNoneUptoRow.holds Try.pinned (OpenSpec.upto probeNoneSpec)

/-- 'undertowlaw16.ProbeWaits', WHERE WHAT IT READS IS OF BULK AT MOST 1048576: true; the input reads as it did. -/
def probeWaitsUptoRow : OpenClaim := { program := "ythafjgaleonbgaa", sum := "9aac3b90e3660b6bc0724ca3a005386abf95f37873e38e60bfdb7be3703ec5ce", func := "undertow/undertowlaw16.ProbeWaits", spec := "probeWaits", unfollowed := true, recurses := true, apart := false, narrowed := true }
def ProbeWaitsUptoSaid : Prop := probeWaitsUptoRow.holds Try.pinned (OpenSpec.upto probeWaitsSpec)

end Rows
end Go.Proofs.Ythafjgaleonbgaa
