/- A range over an iterator that makes memory for each piece, where the piece is laid into a box ahead of the body; a quiet region that draws its order, in a round. Own laws, over range_at and Round. No program in them. -/
import Derived.Test.YtiphkgkhfomcaaaDuctRange
import Derived.Test.YtiphkgkhfomcaaaRound
import Derived.Lib.QuietBelow
set_option linter.unusedSimpArgs false
set_option linter.unusedVariables false
namespace Go.Proofs.Ytiphkgkhfomcaaa.Told
open Go.RowKit
variable {F : Fence} {n : Nat} {P : Program}
/-- The round's frame: the piece in its slot, its box in slot sl. -/
def boxed (ps : Array Tmp) (sl : Tmp) (tmps : Array Value) (x : Value) (Bx : Nat) : Array Value := ((ps.zip #[x]).foldl (fun t (p, v) => t.setIfInBounds p v) tmps).setIfInBounds sl (.pointer (some ⟨Bx, 0, Option.none⟩))
theorem range_box {g : Operand} {ps : Array Tmp} {assign body : Code} {Q : Exit → Act → World → Prop} {a : Act} {w : World} (sl : Tmp)
    (hro : F.round = none) (h1 : 1 ≤ n) {gf : Nat} {lb : Array Value} (hg : a.eval g = .func (.func gf) #[] lb) (hFg : F.fn gf) (eg : ∀ args w, (callFunc gf args).run P w = .ok (.enter gf args) w)
    {enc : Nat → Value → Value} {V : Nat → Value → World → Prop} {Kp : World → World → Prop} {N : Nat} {w0 : World} (hseq : SeqAt F (n - 1) P gf lb enc V Kp N w0)
    (hKt : ∀ {A B C : World}, Kp A B → Kp B C → Kp A C) (hKb : ∀ (W : World) (l : Nat) (o o' : Obj), w.heap.size ≤ l → W.heap[l]? = some o → o.isCells = false → o.isWalk = false → Kp W (W.putObj l o')) (hb0 : Below w0.heap.size w0 w) (hps : ps.size = 1)
    (I : Nat → World → Prop) (Ix : Code → Nat → World → Prop) (hI : OwnFrom w.heap.size I) (hIx : ∀ c, OwnFrom w.heap.size (Ix c)) (h0 : I 0 w) (Ax : Nat → Value → Nat → World → Prop) (hAx : ∀ k v Bx, OwnFrom w.heap.size (fun (_ : Unit) W => Ax k v Bx W))
    (hassign : ∀ (l k : Nat) (v : Value) (W : World) (K : Act → World → Prop), I k W → V k v W → (∀ Bx W', KeepsFrom w.heap.size W W' → Kp W W' → I k W' → Ax k v Bx W' → K { tmps := boxed ps sl a.tmps (enc k v) Bx, defers := [] } W') →
      assign.wpIn (F.inRound l) (n - 1 - 1) P (Exit.then K (fun _ _ _ => False)) { tmps := (ps.zip #[enc k v]).foldl (fun t (p, v) => t.setIfInBounds p v) a.tmps, defers := [] } W)
    (hbody : ∀ (l k : Nat) (v : Value) (Bx : Nat) (W : World), I k W → Ax k v Bx W → k < N → body.wpIn (F.inRound l) (n - 1 - 1) P (Post w.heap.size Kp I Ix k W) { tmps := boxed ps sl a.tmps (enc k v) Bx, defers := [] } W)
    (hdone : ∀ (D : Nat) (W : World), w.heap.size ≤ D → I N W → W.heap[D]? = some (.deferred (some [])) → Q .normal { a with defers := { target := .collected D, args := #[] } :: a.defers } W)
    (hstop : ∀ (D : Nat) (c : Code) (k : Nat) (W : World), w.heap.size ≤ D → k < N → Ix c k W → W.heap[D]? = some (.deferred (some [])) → c.wpIn F n P Q { a with defers := { target := .collected D, args := #[] } :: a.defers } W) :
    (Code.rangeFunc g ps assign body).wpIn F n P Q a w := by
  refine range_at hro h1 hg hFg eg hseq hKt hKb hb0 hps I Ix hI hIx h0 (fun k v a' W => ∃ Bx, Ax k v Bx W ∧ a' = { tmps := boxed ps sl a.tmps (enc k v) Bx, defers := [] }) (fun k v a' => ?_) (fun l k v W K hi hv hK => ?_) (fun l k v a' W hl hrec hi hax hlt => ?_) hdone hstop
  · rintro s A B row ⟨Bx, h, e⟩ hgr hr
    exact ⟨Bx, hAx k v Bx () A B row h hgr hr, e⟩
  · exact hassign l k v W K hi hv (fun Bx W' h1 h2 h3 h4 => hK _ W' h1 h2 h3 ⟨Bx, h4, rfl⟩)
  · obtain ⟨Bx, h, rfl⟩ := hax
    exact hbody l k v Bx W hi h hlt
/-- A drawn region whose operations only read and whose callees only make memory of their own, in a round. -/
theorem round_quiet_below {P : Program} {id lp m : Nat} {Q : Exit → Act → World → Prop} {a : Act} {w : World} {l : List Oper} (hQ : ¬ LetsOut Q) (hd : l.toArray.all (fun o => match o.op with | .defer _ => false | _ => true) = true) (hm : P.follows .mixedOrders = true) (hB : Region.lexB .any l.toArray = true)
    (h : wpQuiet P l.toArray (fun w' => ∃ p : Regrown, w' = Go.Sort.grow (redrawn w p.d) p.os) (fun a' => ∀ w', (∃ p : Regrown, w' = Go.Sort.grow (redrawn w p.d) p.os) → Q .normal a' w') l a) : (Code.region id l.toArray true).wpIn (Fence.wide.inRound lp) m P Q a w := by
  simp only [Region.lexB, Bool.and_eq_true] at hB
  refine wpIn_region_any hm (Round.any_round hQ (fun o ho c e => by
    have := Array.all_eq_true'.1 hd o ho
    rw [e] at this
    cases this) _ _ _ _ ?_)
  refine wpAny_of_quiet (C := fun w' => ∃ p : Regrown, w' = Go.Sort.grow (redrawn w p.d) p.os) (Q := fun a' => ∀ w', (∃ p : Regrown, w' = Go.Sort.grow (redrawn w p.d) p.os) → Q .normal a' w') (fun _ w' hw' h => h w' hw') _ _ _ _ ⟨⟨w.drawn + 1, #[]⟩, by rw [Go.Sort.grow_empty]; rfl⟩ ?_
  have := wpAnyQ_lex (C := fun w' => ∃ p : Regrown, w' = Go.Sort.grow (redrawn w p.d) p.os) (md := .any) hB.1 l 0 (Array.replicate l.toArray.size false) a (by simp) (by simpa using hB.2) h
  simpa using this
end Go.Proofs.Ytiphkgkhfomcaaa.Told
