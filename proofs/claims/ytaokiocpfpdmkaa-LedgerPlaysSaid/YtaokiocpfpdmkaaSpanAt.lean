/- Chapter 06: a span's box in a world, and what keeps it; blocks below. -/
import Derived.Test.YtaokiocpfpdmkaaSpan
namespace Go.Proofs.Ytaokiocpfpdmkaa.Spans
open Go.RowKit Go.OpenShut Go.Proofs.Ytaokiocpfpdmkaa.Aid
def At2 (W : World) (g : Nat) (s : Span) : Prop := W.cell? ⟨g, 0, Option.none⟩ = some (.int .i64 s.lo) ∧ W.cell? ⟨g, 1, Option.none⟩ = some (.int .i64 s.hi)
theorem bn_drew {w W : World} (h : Below w.heap.size w W) : Below w.heap.size w W.drew := below_drew h
theorem bn_alloc {w W : World} (h : Below w.heap.size w W) (o : Obj) : Below w.heap.size w (W.alloc o) := h.alloc h.size _
theorem bn_set {w W : World} (h : Below w.heap.size w W) {p : Addr} (hp : w.heap.size ≤ p.block) (v : Value) : Below w.heap.size w (W.setCell p v) := h.setCell hp v
theorem bn_then {w W W2 : World} (h : Below w.heap.size w W) (k : Below W.heap.size W W2) : Below w.heap.size w W2 := below_then h h.size k
theorem set_here {W : World} {p : Addr} {v x : Value} (h : W.cell? p = some x) : (W.setCell p v).cell? p = some v := by
  exact World.cell?_setCell_same _ _ _ h
theorem at2_call {W W2 : World} {g : Nat} {s : Span} (h : At2 W g s) (hb : Below W.heap.size W W2) : At2 W2 g s :=
  ⟨(hb.cell (World.block_lt_of_cell? W _ h.1)).trans h.1, (hb.cell (World.block_lt_of_cell? W _ h.2)).trans h.2⟩
theorem at2_drew {W : World} {g : Nat} {s : Span} (h : At2 W g s) : At2 W.drew g s := h
theorem at2_alloc {W : World} {g : Nat} {s : Span} (h : At2 W g s) (o : Obj) : At2 (W.alloc o) g s :=
  ⟨(World.cell?_alloc_lt W o _ (World.block_lt_of_cell? W _ h.1)).trans h.1, (World.cell?_alloc_lt W o _ (World.block_lt_of_cell? W _ h.2)).trans h.2⟩
theorem at2_new {W : World} {g : Nat} {s : Span} (hg : g = W.heap.size) : At2 (W.alloc (.cells #[.int .i64 s.lo, .int .i64 s.hi] 26)) g s := by
  subst hg
  exact ⟨(Blk.new W 26 _).cell 0, (Blk.new W 26 _).cell 1⟩
theorem at2_newz {W : World} {g : Nat} (hg : g = W.heap.size) : At2 (W.alloc (.cells #[.int .i64 0, .int .i64 0] 26)) g ⟨0, 0⟩ := by
  subst hg
  exact ⟨(Blk.new W 26 _).cell 0, (Blk.new W 26 _).cell 1⟩
theorem at2_far {W : World} {p : Addr} {v : Value} {g : Nat} {s : Span} (h : At2 W g s) (hp : g ≠ p.block) : At2 (W.setCell p v) g s := by
  refine ⟨(World.cell?_setCell_other _ _ _ _ ?_).trans h.1, (World.cell?_setCell_other _ _ _ _ ?_).trans h.2⟩ <;> · intro e; rw [e] at hp; exact hp rfl
theorem at2_stored {W : World} {g : Nat} {s z : Span} (h : At2 W g z) : At2 ((W.setCell ⟨g, 0, Option.none⟩ (.int .i64 s.lo)).setCell ⟨g, 1, Option.none⟩ (.int .i64 s.hi)) g s := by
  have h1 : (W.setCell ⟨g, 0, Option.none⟩ (.int .i64 s.lo)).cell? ⟨g, 1, Option.none⟩ = some (.int .i64 z.hi) := (World.cell?_setCell_other _ _ _ _ (by simp)).trans h.2
  exact ⟨(World.cell?_setCell_other _ _ _ _ (by simp)).trans (set_here h.1), set_here h1⟩
end Go.Proofs.Ytaokiocpfpdmkaa.Spans
