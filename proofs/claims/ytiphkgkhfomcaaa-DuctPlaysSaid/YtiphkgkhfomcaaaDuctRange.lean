/- A range over an iterator that makes memory for each piece: what it tells of the piece is told of the world in which it is handed over (V). Own law, after the worked callers of the statement's law (wpIn_rangeFunc, roundIn_of_wpIn). -/
import Derived.Test.YtiphkgkhfomcaaaDuctNth
import Derived.RangeFuncNested
import Derived.RangeFuncBound
import Derived.RangeFuncCalls
import Derived.RangeFuncLeaves
set_option linter.unusedSimpArgs false
set_option linter.unusedVariables false
namespace Go.Proofs.Ytiphkgkhfomcaaa.Told
open Go.RowKit
/-- The k-th piece is 'enc k v'; where it is handed over V k v holds of the world; N pieces come. -/
def SeqAt (F : Fence) (n : Nat) (P : Program) (g : Nat) (lb : Array Value) (enc : Nat → Value → Value) (V : Nat → Value → World → Prop) (Kp : World → World → Prop) (N : Nat) (w : World) : Prop :=
  ∀ (l : Nat) (J Jx : Nat → World → Prop) (W : World), Below w.heap.size w W → AbidesFrom W.heap.size J → AbidesFrom W.heap.size Jx →
    (∀ k v W1, J k W1 → k < N → V k v W1 → YieldAt F (n - 1) P l #[enc k v] W1 fun e W' =>
      (e = .returned (.bool true) ∧ J (k + 1) W' ∧ Kp W1 W') ∨ (e = .returned (.bool false) ∧ Jx k W' ∧ Kp W1 W')) →
    J 0 W →
    CallsIn F n P g (#[.func (.yield l) #[] #[]] ++ lb) W fun e W' => (∃ v, e = .returned v) ∧ (J N W' ∨ ∃ k, k < N ∧ Jx k W')
/-- How a round may be left. -/
def Post (B : Nat) (Kp : World → World → Prop) (I : Nat → World → Prop) (Ix : Code → Nat → World → Prop) (k : Nat) (W : World) : Exit → Act → World → Prop
  | .normal, _, W' => KeepsFrom B W W' ∧ Kp W W' ∧ I (k + 1) W'
  | .ret, _, W' => KeepsFrom B W W' ∧ Kp W W' ∧ Ix .ret k W'
  | .exit id, _, W' => KeepsFrom B W W' ∧ Kp W W' ∧ Ix (.exit id) k W'
  | .goto t, _, W' => KeepsFrom B W W' ∧ Kp W W' ∧ Ix (.goto t) k W'
  | .panic _, _, _ => False
  | .outgrown, _, _ => False
/-- The loop's record at l, its rounds' deferred calls at d: as they stand. -/
structure Book (W : World) (l d : Nat) (r : Loop) : Prop where
  rc : W.heap[l]? = some (.loop r)
  df : W.heap[d]? = some (.deferred (some []))
section
variable {W W' : World} {l d : Nat} {r : Loop}
theorem Book.lt (h : Book W l d r) : l < W.heap.size := (Array.getElem?_eq_some_iff.1 h.rc).1
theorem Book.kept {B : Nat} (h : Book W l d r) (hk : KeepsFrom B W W') (h1 : B ≤ l) (h2 : B ≤ d) : Book W' l d r := ⟨hk.same _ _ h1 h.rc rfl, hk.same _ _ h2 h.df rfl⟩
theorem Book.turn (h : Book W l d r) (hne : d ≠ l) (r' : Loop) : Book (W.putObj l (.loop r')) l d r' := ⟨World.putObj_heap_same h.lt, (World.putObj_heap_other hne).trans h.df⟩
theorem Book.abides {row : Option Nat} (h : Book W l d r) (hg : W.grownBy W' row) (hr : ∀ k, row = some k → ∃ o : Obj, W.heap[k]? = some o ∧ o.isWalk = true) : Book W' l d r :=
  ⟨(grownBy_keeps hg hr h.rc rfl).trans h.rc, (grownBy_keeps hg hr h.df rfl).trans h.df⟩
end
variable {F : Fence} {n : Nat} {P : Program}
set_option maxHeartbeats 1000000 in
theorem range_at {g : Operand} {ps : Array Tmp} {assign body : Code} {Q : Exit → Act → World → Prop} {a : Act} {w : World}
    (hro : F.round = none) (h1 : 1 ≤ n) {gf : Nat} {lb : Array Value} (hg : a.eval g = .func (.func gf) #[] lb) (hFg : F.fn gf) (eg : ∀ args w, (callFunc gf args).run P w = .ok (.enter gf args) w)
    {enc : Nat → Value → Value} {V : Nat → Value → World → Prop} {Kp : World → World → Prop} {N : Nat} {w0 : World} (hseq : SeqAt F (n - 1) P gf lb enc V Kp N w0)
    (hKt : ∀ {A B C : World}, Kp A B → Kp B C → Kp A C) (hKb : ∀ (W : World) (l : Nat) (o o' : Obj), w.heap.size ≤ l → W.heap[l]? = some o → o.isCells = false → o.isWalk = false → Kp W (W.putObj l o')) (hb0 : Below w0.heap.size w0 w) (hps : ps.size = 1)
    (I : Nat → World → Prop) (Ix : Code → Nat → World → Prop) (hI : OwnFrom w.heap.size I) (hIx : ∀ c, OwnFrom w.heap.size (Ix c)) (h0 : I 0 w) (Ax : Nat → Value → Act → World → Prop) (hAx : ∀ k v a', OwnFrom w.heap.size (fun (_ : Unit) W => Ax k v a' W))
    (hassign : ∀ (l k : Nat) (v : Value) (W : World) (K : Act → World → Prop), I k W → V k v W → (∀ a' W', KeepsFrom w.heap.size W W' → Kp W W' → I k W' → Ax k v a' W' → K a' W') →
      assign.wpIn (F.inRound l) (n - 1 - 1) P (Exit.then K (fun _ _ _ => False)) { tmps := (ps.zip #[enc k v]).foldl (fun t (p, v) => t.setIfInBounds p v) a.tmps, defers := [] } W)
    (hbody : ∀ (l k : Nat) (v : Value) (a' : Act) (W : World), w.heap.size ≤ l → (∃ r, W.heap[l]? = some (.loop r)) → I k W → Ax k v a' W → k < N → body.wpIn (F.inRound l) (n - 1 - 1) P (Post w.heap.size Kp I Ix k W) a' W)
    (hdone : ∀ (D : Nat) (W : World), w.heap.size ≤ D → I N W → W.heap[D]? = some (.deferred (some [])) → Q .normal { a with defers := { target := .collected D, args := #[] } :: a.defers } W)
    (hstop : ∀ (D : Nat) (c : Code) (k : Nat) (W : World), w.heap.size ≤ D → k < N → Ix c k W → W.heap[D]? = some (.deferred (some [])) → c.wpIn F n P Q { a with defers := { target := .collected D, args := #[] } :: a.defers } W) :
    (Code.rangeFunc g ps assign body).wpIn F n P Q a w := by
  refine wpIn_rangeFunc fun fn hfn => ?_
  rw [hro]
  let R (st : LoopState) (pe : Option Code) : Loop := { state := st, pending := pe, fn, tmps := a.tmps, params := ps, assign, body, defers := w.heap.size }
  have hZ : ∃ Z, (w.alloc (.deferred (some []))).alloc (.loop (R .ready none)) = Z := ⟨_, rfl⟩
  obtain ⟨Z, hZ⟩ := hZ
  have hsz : Z.heap.size = w.heap.size + 2 := by rw [← hZ]; simp
  have bk : Book Z (w.heap.size + 1) w.heap.size (R .ready none) := by
    subst hZ
    constructor
    · have := World.alloc_heap_new (w.alloc (.deferred (some []))) (.loop (R .ready none))
      rwa [World.size_alloc] at this
    · exact (Below.heap_alloc _ _ _ (by simp)).trans (World.alloc_heap_new w _)
  have iz : I 0 Z := hZ ▸ hI.alloc _ (hI.alloc _ h0)
  have bz : Below w0.heap.size w0 Z := hZ ▸ hb0.trans ((((Below.refl _ w).alloc (Nat.le_refl _) _).alloc (by simp) _).mono hb0.size)
  have turn : ∀ {A B : World} {row : Option Nat}, (∀ r, row = some r → Z.heap.size ≤ r ∧ ∃ o : Obj, A.heap[r]? = some o ∧ o.isWalk = true) → (∀ r, row = some r → w.heap.size ≤ r ∧ ∃ o : Obj, A.heap[r]? = some o ∧ o.isCells = false) :=
    fun hr r e => by
      obtain ⟨hB, o, ho, hw⟩ := hr r e
      exact ⟨by omega, o, ho, Obj.not_cells_of_walk hw⟩
  have enter : (Instr.enterLoop fn a.tmps ps assign body none).run P w = .ok (w.heap.size + 1, [{ target := .collected w.heap.size, args := #[] }]) Z := hZ ▸ run_enterLoop_outer _ _ _ _ _
  refine ⟨_, _, Z, { target := .fn (.func gf) lb, args := #[.func (.yield (w.heap.size + 1)) #[] #[]] }, Z, gf, #[.func (.yield (w.heap.size + 1)) #[] #[]] ++ lb, Z, enter, ?_, ?_, ?_, fun _ => h1, ?_⟩
  · simp only [resolve, hg]
    simp [go_sem]
  · intro f' hf'
    simp [Target.leads] at hf'
    exact hf' ▸ hFg
  · simp [invoke, go_sem, eg]
  refine (hseq (w.heap.size + 1) (fun k W => I k W ∧ Book W (w.heap.size + 1) w.heap.size (R .ready none)) (fun k W => ∃ c, Ix c k W ∧ Book W (w.heap.size + 1) w.heap.size (R .done (some c))) Z bz ?_ ?_ ?_ ⟨iz, bk⟩).mono ?_
  · intro s A B row hs hgr hr
    exact ⟨hI s A B row hs.1 hgr (turn (B := B) hr), hs.2.abides hgr (fun r e => (hr r e).2)⟩
  · rintro s A B row ⟨c, hc, hs⟩ hgr hr
    exact ⟨c, hIx c s A B row hc hgr (turn (B := B) hr), hs.abides hgr (fun r e => (hr r e).2)⟩
  · rintro k v W ⟨hi, hbk⟩ hlt hv
    have hy := run_yield (P := P) (args := #[enc k v]) hbk.rc (by simp [R, hps])
    refine ⟨fn, _, assign, body, hy, roundIn_of_wpIn hfn (hassign _ k v W _ hi hv ?_)⟩
    intro a' Wa hka hpa hia hax
    have bka := hbk.kept hka (by omega) (Nat.le_refl _)
    refine ⟨_, run_beginRound bka.rc rfl, ?_⟩
    have bkb := bka.turn (by omega) { R .ready none with state := .busy }
    have hpb : Kp Wa (Wa.putObj (w.heap.size + 1) (.loop { R .ready none with state := .busy })) := hKb _ _ _ _ (by omega) bka.rc rfl rfl
    refine wpIn_mono (hbody _ k v a' _ (by omega) ⟨_, bkb.rc⟩ (hI.putObj _ hia (by omega) bka.rc rfl) ((hAx k v a').putObj (s := ()) _ hax (by omega) bka.rc rfl) hlt) ?_
    rintro e a3 W3 hp
    cases e with
    | normal =>
      obtain ⟨hk3, hp3, hi3⟩ := hp
      have b3 := bkb.kept hk3 (by omega) (Nat.le_refl _)
      exact ⟨_, _, run_endRound none b3.rc, .inl ⟨rfl, ⟨hI.putObj _ hi3 (by omega) b3.rc rfl, b3.turn (by omega) _⟩, hKt hpa (hKt (hKt hpb hp3) (hKb _ _ _ _ (by omega) b3.rc rfl rfl))⟩⟩
    | ret =>
      obtain ⟨hk3, hp3, hi3⟩ := hp
      have b3 := bkb.kept hk3 (by omega) (Nat.le_refl _)
      exact ⟨_, _, run_endRound (some .ret) b3.rc, .inr ⟨rfl, ⟨.ret, (hIx _).putObj _ hi3 (by omega) b3.rc rfl, b3.turn (by omega) _⟩, hKt hpa (hKt (hKt hpb hp3) (hKb _ _ _ _ (by omega) b3.rc rfl rfl))⟩⟩
    | exit id =>
      obtain ⟨hk3, hp3, hi3⟩ := hp
      have b3 := bkb.kept hk3 (by omega) (Nat.le_refl _)
      exact ⟨_, _, run_endRound (some (.exit id)) b3.rc, .inr ⟨rfl, ⟨.exit id, (hIx _).putObj _ hi3 (by omega) b3.rc rfl, b3.turn (by omega) _⟩, hKt hpa (hKt (hKt hpb hp3) (hKb _ _ _ _ (by omega) b3.rc rfl rfl))⟩⟩
    | goto t =>
      obtain ⟨hk3, hp3, hi3⟩ := hp
      have b3 := bkb.kept hk3 (by omega) (Nat.le_refl _)
      exact ⟨_, _, run_endRound (some (.goto t)) b3.rc, .inr ⟨rfl, ⟨.goto t, (hIx _).putObj _ hi3 (by omega) b3.rc rfl, b3.turn (by omega) _⟩, hKt hpa (hKt (hKt hpb hp3) (hKb _ _ _ _ (by omega) b3.rc rfl rfl))⟩⟩
    | panic ch => exact hp.elim
    | outgrown => exact hp.elim
  · rintro e W2 ⟨⟨v, rfl⟩, ⟨hi, hbk⟩ | ⟨k, hlt, c, hi, hbk⟩⟩
    · exact ⟨none, _, run_endLoop hbk.rc (by simp [R]), hdone _ _ (Nat.le_refl _) (hI.putObj _ hi (by omega) hbk.rc rfl) ((World.putObj_heap_other (by omega)).trans hbk.df)⟩
    · exact ⟨some c, _, run_endLoop hbk.rc (by simp [R]), hstop _ c k _ (Nat.le_refl _) hlt ((hIx c).putObj _ hi (by omega) hbk.rc rfl) ((World.putObj_heap_other (by omega)).trans hbk.df)⟩
end Go.Proofs.Ytiphkgkhfomcaaa.Told
