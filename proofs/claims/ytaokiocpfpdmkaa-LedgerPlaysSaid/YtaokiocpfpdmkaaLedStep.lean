/- Chapter 19 (ledger): an operation of the document and of the ledger, told alike. -/
import Derived.Test.YtaokiocpfpdmkaaLedPair
set_option linter.unusedSimpArgs false
set_option linter.unusedVariables false
namespace Go.Proofs.Ytaokiocpfpdmkaa.Led
open Go.BigFrame Go.RowKit Go.OpenShut Go.Proofs.Ytaokiocpfpdmkaa.Aid Go.Proofs.Ytaokiocpfpdmkaa.Spans
/-- What comes of the document's call. -/
def DStep (w : World) (v : Value) (L' : Led) (r : Value) (e : Ending) (w' : World) : Prop :=
  ∃ A n c, e = .returned (.tuple #[byVal L' (.slice A n c), r]) ∧ RowOf 26 2 encS w' (.slice A n c) L'.list ∧ Below w.heap.size w w' ∧ ∀ k, (Value.slice A n c).ownBlock = some k → v.ownBlock = some k ∨ w.heap.size ≤ k
theorem dstep_val {w : World} {A : Option Addr} {n c : Nat} {L L' : Led} {r : Value} {e : Ending} {w' : World} (h : Val w L' (.slice A n c) r e w') (hr : RowOf 26 2 encS w (.slice A n c) L.list) (hl : L'.list = L.list) : DStep w (.slice A n c) L' r e w' :=
  ⟨A, n, c, h.1, hl ▸ hr.below h.2, h.2, fun k hk => .inl hk⟩
theorem does_same {w : World} {g : Nat} {v r : Value} {L : Led} {e : Ending} {w' : World} (h : IsLed w g v L) (hs : Same w r e w') : Does w g v r L e w' := by
  obtain ⟨he, rfl⟩ := hs
  exact ⟨he, v, h, kept_refl w g v, fun k hk => .inl hk⟩
theorem does_gives {w : World} {g : Nat} {v r : Value} {L : Led} {e : Ending} {w' : World} (h : IsLed w g v L) (hs : Gives w r e w') : Does w g v r L e w' := by
  obtain ⟨he, hb⟩ := hs
  exact ⟨he, v, h.below hb, kept_below (kept_refl w g v) hb, fun k hk => .inl hk⟩
def cutR (L : Led) (a b : Int) : Bool × Led := if L.opn then (false, L) else (true, ⟨true, a, b, L.list, L.spilt⟩)
def againR (L : Led) (s : Span) : Int × Led := if len s = 0 then (3, L) else if L.list.length < 256 then (0, ⟨L.opn, L.cwnd, L.thresh, L.list ++ [s], L.spilt⟩) else (4, ⟨L.opn, L.cwnd, L.thresh, L.list, true⟩)
def dupR (L : Led) (s : Span) : Bool × Led := if len s = 0 then (false, L) else (any s L.list, ⟨L.opn, L.cwnd, L.thresh, goes s L.list, L.spilt⟩)
theorem d_cut (L : Led) (A : Option Addr) (n c : Nat) (a b : Int) (w : World) (hr : RowOf 26 2 encS w (.slice A n c) L.list) : Calls Try.prog 64 #[byVal L (.slice A n c), .int .i64 a, .int .i64 b] w (DStep w (.slice A n c) (cutR L a b).2 (.bool (cutR L a b).1)) := by
  unfold cutR
  cases ho : L.opn
  · exact (rcut_yes L A n c a b w ho).mono fun e w' h => dstep_val h hr rfl
  · exact (rcut_no L A n c a b w ho).mono fun e w' h => dstep_val h hr rfl
theorem l_cut (g : Nat) (v : Value) (L : Led) (a b : Int) (w : World) (h : IsLed w g v L) : Calls Try.prog 28 #[.pointer (some ⟨g, 0, Option.none⟩), .int .i64 a, .int .i64 b] w (Does w g v (.bool (cutR L a b).1) (cutR L a b).2) := by
  unfold cutR
  cases ho : L.opn
  · exact cut_yes g v L a b w h ho
  · exact (cut_no g v L a b w h ho).mono fun e w' hs => does_same h hs
theorem d_again (L : Led) (A : Option Addr) (n c : Nat) (s : Span) (w : World) (hr : RowOf 26 2 encS w (.slice A n c) L.list) (hl : L.list.length ≤ 256) : Calls Try.prog 65 #[byVal L (.slice A n c), .agg #[.int .i64 s.lo, .int .i64 s.hi]] w (DStep w (.slice A n c) (againR L s).2 (.int .i64 (againR L s).1)) := by
  unfold againR
  by_cases h0 : len s = 0
  · rw [if_pos h0]
    exact (ragain_range L A n c s w h0).mono fun e w' h => dstep_val h hr rfl
  · rw [if_neg h0]
    by_cases h1 : L.list.length < 256
    · rw [if_pos h1]
      refine (ragain_ok L A n c s w hr h0 h1).mono ?_
      rintro e w' ⟨A', n', c', he, r1, b1, o1⟩
      exact ⟨A', n', c', he, r1, b1, fun k hk => .inr (o1 k hk)⟩
    · rw [if_neg h1]
      obtain ⟨A', c', e1, _⟩ := hr.slice
      injection e1 with _ e2 _
      exact (ragain_full L A n c s w h0 (by omega)).mono fun e w' h => dstep_val h hr rfl
theorem l_again (g : Nat) (v : Value) (L : Led) (s : Span) (w : World) (h : IsLed w g v L) : Calls Try.prog 26 #[.pointer (some ⟨g, 0, Option.none⟩), .agg #[.int .i64 s.lo, .int .i64 s.hi]] w (Does w g v (.int .i64 (againR L s).1) (againR L s).2) := by
  unfold againR
  by_cases h0 : len s = 0
  · rw [if_pos h0]
    exact (again_range g s w h0).mono fun e w' hs => does_gives h hs
  · rw [if_neg h0]
    by_cases h1 : L.list.length < 256
    · rw [if_pos h1]
      exact again_ok g v L s w h h0 h1
    · rw [if_neg h1]
      have := h.row.1
      exact again_full g v L s w h h0 (by omega)
theorem d_dup (L : Led) (A : Option Addr) (n c : Nat) (s : Span) (w : World) (hr : RowOf 26 2 encS w (.slice A n c) L.list) (hl : L.list.length ≤ 256) : Calls Try.prog 66 #[byVal L (.slice A n c), .agg #[.int .i64 s.lo, .int .i64 s.hi]] w (DStep w (.slice A n c) (dupR L s).2 (.bool (dupR L s).1)) := by
  unfold dupR
  by_cases h0 : len s = 0
  · rw [if_pos h0]
    exact (rdup_zero L A n c s w h0).mono fun e w' h => dstep_val h hr rfl
  · rw [if_neg h0]
    exact rdup_calls L A n c s w hr h0 hl
theorem l_dup (g : Nat) (v : Value) (L : Led) (s : Span) (w : World) (h : IsLed w g v L) : Calls Try.prog 27 #[.pointer (some ⟨g, 0, Option.none⟩), .agg #[.int .i64 s.lo, .int .i64 s.hi]] w (Does w g v (.bool (dupR L s).1) (dupR L s).2) := by
  unfold dupR
  by_cases h0 : len s = 0
  · rw [if_pos h0]
    exact (dup_zero g s w h0).mono fun e w' hs => does_gives h hs
  · rw [if_neg h0]
    exact dup_calls g v L s w h h0
/-- Undo, then (if asked for and not done) Force. -/
def undoR (L : Led) (f : Bool) : Bool × Led := if L.opn && (f || (L.list.isEmpty && !L.spilt)) then (true, ⟨false, L.cwnd, L.thresh, L.list, L.spilt⟩) else (false, L)
theorem d_undo (L : Led) (A : Option Addr) (n c : Nat) (f : Bool) (w : World) (hr : RowOf 26 2 encS w (.slice A n c) L.list) (hl : L.list.length ≤ 256) : Calls Try.prog 67 #[byVal L (.slice A n c), .bool f] w (DStep w (.slice A n c) (undoR L f).2 (.bool (undoR L f).1)) := by
  obtain ⟨A', c', e1, _⟩ := hr.slice
  injection e1 with e1 e2 e3
  subst e1 e2 e3
  unfold undoR
  by_cases h : (L.opn && (f || (L.list.isEmpty && !L.spilt))) = true
  · rw [if_pos h]
    simp only [Bool.and_eq_true, Bool.or_eq_true, Bool.not_eq_true'] at h
    exact (rundo_yes L A c f w hl h.1 (h.2.imp id fun h => ⟨by simpa using h.1, h.2⟩)).mono fun e w' h => dstep_val h hr rfl
  · rw [if_neg h]
    have h2 : L.opn = false ∨ (f = false ∧ (L.list ≠ [] ∨ L.spilt = true)) := by
      cases h3 : L.opn
      · exact .inl rfl
      · rw [h3] at h
        cases f
        · refine .inr ⟨rfl, ?_⟩
          cases h4 : L.spilt
          · rw [h4] at h
            left
            intro h5
            rw [h5] at h
            simp at h
          · exact .inr rfl
        · simp at h
    exact (rundo_no L A c f w hl h2).mono fun e w' h => dstep_val h hr rfl
/-- What Undo tells of a ledger: of the window, whether it was; and what it is then. -/
def lundo (L : Led) : (Int × Int × Bool) × Led := if L.opn && (L.list.isEmpty && !L.spilt) then ((L.cwnd, L.thresh, true), ⟨false, L.cwnd, L.thresh, L.list, L.spilt⟩) else ((0, 0, false), L)
def lforce (L : Led) : (Int × Int × Bool) × Led := if L.opn then ((L.cwnd, L.thresh, true), ⟨false, L.cwnd, L.thresh, L.list, L.spilt⟩) else ((0, 0, false), L)
theorem l_force (g : Nat) (v : Value) (L : Led) (w : World) (h : IsLed w g v L) : Calls Try.prog 35 #[.pointer (some ⟨g, 0, Option.none⟩)] w (Does w g v (Three (lforce L).1.1 (lforce L).1.2.1 (lforce L).1.2.2) (lforce L).2) := by
  unfold lforce
  cases ho : L.opn
  · exact (force_no g v L w h ho).mono fun e w' hs => does_same h hs
  · exact force_yes g v L w h ho
theorem l_undo (g : Nat) (v : Value) (L : Led) (w : World) (h : IsLed w g v L) : Calls Try.prog 29 #[.pointer (some ⟨g, 0, Option.none⟩)] w (Does w g v (Three (lundo L).1.1 (lundo L).1.2.1 (lundo L).1.2.2) (lundo L).2) := by
  unfold lundo
  by_cases h1 : L.list = [] ∧ L.spilt = false
  · obtain ⟨h1, h2⟩ := h1
    refine undo_go g v L w h h1 h2 ((l_force g v L w h).mono fun e w' hd => ⟨_, _, _, hd.1, ?_⟩)
    unfold lforce at hd
    rw [h1, h2]
    rw [h1, h2] at hd
    cases ho : L.opn <;> rw [ho] at hd <;> simpa using hd
  · have h2 : L.list ≠ [] ∨ L.spilt = true := by
      by_cases h3 : L.list = []
      · right
        cases h4 : L.spilt
        · exact absurd ⟨h3, h4⟩ h1
        · rfl
      · exact .inl h3
    have h3 : (L.opn && (L.list.isEmpty && !L.spilt)) = false := by
      rcases h2 with h2 | h2
      · have : L.list.isEmpty = false := by simpa using h2
        rw [this]; simp
      · rw [h2]; simp
    rw [h3]
    exact (undo_stay g v L w h h2).mono fun e w' hs => does_same h hs
end Go.Proofs.Ytaokiocpfpdmkaa.Led
