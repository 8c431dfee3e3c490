/- Chapter 19 (ledger): the walks of what asks a ledger, cuts it, and tells what the window was. -/
import Derived.Test.YtaokiocpfpdmkaaSpanRef
import Derived.Test.YtaokiocpfpdmkaaSpanMath
import Derived.Test.YtaokiocpfpdmkaaRowLaw
namespace Go.Proofs.Ytaokiocpfpdmkaa.Led
open Go.BigFrame Go.RowKit Go.OpenShut Go.Proofs.Ytaokiocpfpdmkaa.Aid Go.Proofs.Ytaokiocpfpdmkaa.Spans
structure Led where
  opn : Bool
  cwnd : Int
  thresh : Int
  list : List Span
  spilt : Bool
deriving Inhabited
def encS (s : Span) : List Value := [.int .i64 s.lo, .int .i64 s.hi]
/-- The list of a ledger. -/
def Row (w : World) (v : Value) (xs : List Span) : Prop := xs.length ≤ 256 ∧ RowOf 26 2 encS w v xs
def cells (L : Led) (v : Value) : Array Value := #[.bool L.opn, .int .i64 L.cwnd, .int .i64 L.thresh, v, .bool L.spilt]
structure IsLed (w : World) (g : Nat) (v : Value) (L : Led) : Prop where
  box : Blk w g 102 (cells L v)
  row : Row w v L.list
  apart : v.ownBlock ≠ some g
/-- Nothing but a ledger's own blocks has turned. -/
structure Kept (w w' : World) (g : Nat) (v : Value) : Prop where
  os : w'.os = w.os
  tape : w'.tape = w.tape
  output : w'.output = w.output
  size : w.heap.size ≤ w'.heap.size
  block : ∀ k, k < w.heap.size → k ≠ g → v.ownBlock ≠ some k → w'.heap[k]? = w.heap[k]?
theorem Row.lt {w : World} {v : Value} {xs : List Span} (h : Row w v xs) (k : Nat) (hk : v.ownBlock = some k) : k < w.heap.size := h.2.lt k hk
theorem Row.same {w w' : World} {v : Value} {xs : List Span} (h : Row w v xs) (hb : ∀ k, v.ownBlock = some k → w'.heap[k]? = w.heap[k]?) : Row w' v xs := ⟨h.1, h.2.same hb⟩
theorem IsLed.below {w w' : World} {g : Nat} {v : Value} {L : Led} (h : IsLed w g v L) (hb : Below w.heap.size w w') : IsLed w' g v L :=
  ⟨h.box.below hb h.box.lt, h.row.same (fun k hk => hb.block k (h.row.lt k hk)), h.apart⟩
theorem IsLed.far {w w' : World} {g g2 : Nat} {v v2 : Value} {L : Led} (h : IsLed w g v L) (hk : Kept w w' g2 v2) (h1 : g ≠ g2) (h2 : v2.ownBlock ≠ some g) (h3 : v.ownBlock ≠ some g2) (h4 : ∀ k, v.ownBlock = some k → v2.ownBlock ≠ some k) : IsLed w' g v L :=
  ⟨(hk.block g h.box.lt h1 h2).trans h.box, h.row.same (fun k e => hk.block k (h.row.lt k e) (fun e2 => h3 (e2 ▸ e)) (h4 k e)), h.apart⟩
def Same (w : World) (v : Value) (e : Ending) (w' : World) : Prop := e = .returned v ∧ w = w'
theorem open_none (w : World) : Calls Try.prog 33 #[.pointer none] w (Same w (.bool false)) := by
  go_enter Try.func33, Try.ntmps33
  go_wp2
  go_ret
  exact ⟨rfl, rfl⟩
theorem open_calls (g : Nat) (v : Value) (L : Led) (w : World) (h : IsLed w g v L) : Calls Try.prog 33 #[.pointer (some ⟨g, 0, none⟩)] w (Same w (.bool L.opn)) := by
  have c0 : w.cell? ⟨g, 0, Option.none⟩ = some (.bool L.opn) := h.box.cell 0
  go_enter Try.func33, Try.ntmps33
  go_wp2
  go_ret
  exact ⟨rfl, rfl⟩
theorem spilt_none (w : World) : Calls Try.prog 34 #[.pointer none] w (Same w (.bool false)) := by
  go_enter Try.func34, Try.ntmps34
  go_wp2
  go_ret
  exact ⟨rfl, rfl⟩
theorem spilt_calls (g : Nat) (v : Value) (L : Led) (w : World) (h : IsLed w g v L) : Calls Try.prog 34 #[.pointer (some ⟨g, 0, none⟩)] w (Same w (.bool L.spilt)) := by
  have c0 : w.cell? ⟨g, 4, Option.none⟩ = some (.bool L.spilt) := h.box.cell 4
  go_enter Try.func34, Try.ntmps34
  go_wp2
  go_ret
  exact ⟨rfl, rfl⟩
theorem Row.slice {w : World} {v : Value} {xs : List Span} (h : Row w v xs) : ∃ A cap, v = .slice A xs.length cap ∧ xs.length ≤ cap := h.2.slice
theorem pending_none (w : World) : Calls Try.prog 30 #[.pointer none] w (Same w (.int .i64 0)) := by
  go_enter Try.func30, Try.ntmps30
  go_wp2
  go_ret
  exact ⟨rfl, rfl⟩
theorem pending_calls (g : Nat) (v : Value) (L : Led) (w : World) (h : IsLed w g v L) : Calls Try.prog 30 #[.pointer (some ⟨g, 0, none⟩)] w (Same w (.int .i64 L.list.length)) := by
  obtain ⟨A, cap, rfl, _⟩ := h.row.slice
  have hl := h.row.1
  have c0 : w.cell? ⟨g, 3, Option.none⟩ = some (.slice A L.list.length cap) := h.box.cell 3
  go_enter Try.func30, Try.ntmps30
  go_wp2
  go_ret
  exact ⟨rfl, rfl⟩
def New (w : World) (g : Nat) (e : Ending) (w' : World) : Prop := e = .returned (.pointer (some ⟨g, 0, none⟩)) ∧ IsLed w' g (.slice none 0 0) ⟨false, 0, 0, [], false⟩ ∧ Below w.heap.size w w' ∧ w.heap.size = g ∧ w.heap.size < w'.heap.size
theorem new_calls (w : World) : Calls Try.prog 25 #[] w (New w w.heap.size) := by
  go_enter Try.func25, Try.ntmps25
  go_wp2
  go_ret
  refine ⟨rfl, ⟨Blk.new w 102 _, ⟨by simp, .inl ⟨rfl, rfl⟩⟩, by simp [Value.ownBlock]⟩, (Below.refl _ w).alloc (Nat.le_refl _) _, rfl, by simp⟩
def Does (w : World) (g : Nat) (v r : Value) (L' : Led) (e : Ending) (w' : World) : Prop :=
  e = .returned r ∧ ∃ v', IsLed w' g v' L' ∧ Kept w w' g v ∧ (∀ k, v'.ownBlock = some k → v.ownBlock = some k ∨ w.heap.size ≤ k)
section
variable {w w1 : World} {g : Nat} {v : Value}
theorem kept_refl (w : World) (g : Nat) (v : Value) : Kept w w g v := ⟨rfl, rfl, rfl, Nat.le_refl _, fun _ _ _ _ => rfl⟩
theorem kept_set (h : Kept w w1 g v) (i : Nat) (u : Value) : Kept w (w1.setCell ⟨g, i, none⟩ u) g v :=
  ⟨h.os, h.tape, h.output, by simpa [World.setCell] using h.size, fun k hk h1 h2 => (Below.heap_setCell w1 _ u k h1).trans (h.block k hk h1 h2)⟩
theorem kept_drewN (h : Kept w w1 g v) (n : Nat) : Kept w (w1.drewN n) g v := ⟨h.os, h.tape, h.output, h.size, h.block⟩
theorem kept_drew (h : Kept w w1 g v) : Kept w w1.drew g v := ⟨h.os, h.tape, h.output, h.size, h.block⟩
theorem kept_below {w2 : World} (h : Kept w w1 g v) (hb : Below w1.heap.size w1 w2) : Kept w w2 g v :=
  ⟨hb.os.trans h.os, hb.tape.trans h.tape, hb.output.trans h.output, Nat.le_trans h.size hb.size, fun k hk h1 h2 => (hb.block k (Nat.lt_of_lt_of_le hk h.size)).trans (h.block k hk h1 h2)⟩
theorem below_kept {w2 : World} (hb : Below w.heap.size w w1) (h : Kept w1 w2 g v) : Kept w w2 g v :=
  ⟨h.os.trans hb.os, h.tape.trans hb.tape, h.output.trans hb.output, Nat.le_trans hb.size h.size, fun k hk h1 h2 => (h.block k (Nat.lt_of_lt_of_le hk hb.size) h1 h2).trans (hb.block k hk)⟩
end
theorem own_ne {w : World} {g : Nat} {v : Value} {L : Led} (h : IsLed w g v L) (k : Nat) (hk : v.ownBlock = some k) : k ≠ g := fun e => h.apart (e ▸ hk)
theorem row_set {w : World} {g : Nat} {v : Value} {xs : List Span} (h : Row w v xs) (ha : v.ownBlock ≠ some g) (i : Nat) (u : Value) : Row (w.setCell ⟨g, i, none⟩ u) v xs :=
  h.same (fun k hk => Below.heap_setCell w _ u k (fun (e : k = g) => ha (by rw [← e]; exact hk)))
theorem cut_none (a b : Int) (w : World) : Calls Try.prog 28 #[.pointer none, .int .i64 a, .int .i64 b] w (Same w (.bool false)) := by
  go_enter Try.func28, Try.ntmps28
  go_wp2
  go_ret
  exact ⟨rfl, rfl⟩
theorem cut_no (g : Nat) (v : Value) (L : Led) (a b : Int) (w : World) (h : IsLed w g v L) (ho : L.opn = true) : Calls Try.prog 28 #[.pointer (some ⟨g, 0, none⟩), .int .i64 a, .int .i64 b] w (Same w (.bool false)) := by
  have c0 : w.cell? ⟨g, 0, Option.none⟩ = some (.bool true) := by rw [← ho]; exact h.box.cell 0
  clear ho
  go_enter Try.func28, Try.ntmps28
  go_wp2
  go_ret
  exact ⟨rfl, rfl⟩
theorem cut_yes (g : Nat) (v : Value) (L : Led) (a b : Int) (w : World) (h : IsLed w g v L) (ho : L.opn = false) : Calls Try.prog 28 #[.pointer (some ⟨g, 0, none⟩), .int .i64 a, .int .i64 b] w (Does w g v (.bool true) ⟨true, a, b, L.list, L.spilt⟩) := by
  have c0 : w.cell? ⟨g, 0, Option.none⟩ = some (.bool false) := by rw [← ho]; exact h.box.cell 0
  have c1 : w.cell? ⟨g, 1, Option.none⟩ = some (.int .i64 L.cwnd) := h.box.cell 1
  have c2 : w.cell? ⟨g, 2, Option.none⟩ = some (.int .i64 L.thresh) := h.box.cell 2
  have fz : ∀ i, w.frozen? ⟨g, i, Option.none⟩ = false := h.box.frozen
  have H := Lib.hid h
  clear ho h
  go_enter Try.func28, Try.ntmps28
  go_wp2
  go_ret
  refine ⟨rfl, v, ⟨?_, row_set (row_set (row_set H.out.row H.out.apart _ _) H.out.apart _ _) H.out.apart _ _, H.out.apart⟩, kept_set (kept_set (kept_set (kept_refl _ _ _) _ _) _ _) _ _, fun k hk => .inl hk⟩
  exact (((H.out.box.set_ 0 _).set_ 1 _).set_ 2 _)
def Three (a b : Int) (o : Bool) : Value := .tuple #[.int .i64 a, .int .i64 b, .bool o]
theorem force_none (w : World) : Calls Try.prog 35 #[.pointer none] w (Same w (Three 0 0 false)) := by
  go_enter Try.func35, Try.ntmps35
  go_wp2_with (go_at_call 33; refine (open_none _).mono ?_; rintro e w1 ⟨rfl, rfl⟩)
  go_ret3
  exact ⟨rfl, rfl⟩
theorem force_no (g : Nat) (v : Value) (L : Led) (w : World) (h : IsLed w g v L) (ho : L.opn = false) : Calls Try.prog 35 #[.pointer (some ⟨g, 0, none⟩)] w (Same w (Three 0 0 false)) := by
  have K := Lib.hid (open_calls g v L w h)
  rw [ho] at K
  clear ho h
  go_enter Try.func35, Try.ntmps35
  go_wp2_with (go_at_call 33; refine K.out.mono ?_; rintro e w1 ⟨rfl, rfl⟩)
  go_ret3
  exact ⟨rfl, rfl⟩
theorem force_yes (g : Nat) (v : Value) (L : Led) (w : World) (h : IsLed w g v L) (ho : L.opn = true) : Calls Try.prog 35 #[.pointer (some ⟨g, 0, none⟩)] w (Does w g v (Three L.cwnd L.thresh true) ⟨false, L.cwnd, L.thresh, L.list, L.spilt⟩) := by
  have K := Lib.hid (open_calls g v L w h)
  rw [ho] at K
  have c0 : w.cell? ⟨g, 0, Option.none⟩ = some (.bool true) := by rw [← ho]; exact h.box.cell 0
  have c1 : w.cell? ⟨g, 1, Option.none⟩ = some (.int .i64 L.cwnd) := h.box.cell 1
  have c2 : w.cell? ⟨g, 2, Option.none⟩ = some (.int .i64 L.thresh) := h.box.cell 2
  have fz : ∀ i, w.frozen? ⟨g, i, Option.none⟩ = false := h.box.frozen
  have H := Lib.hid h
  clear ho h
  go_enter Try.func35, Try.ntmps35
  go_wp2_with (go_at_call 33; refine K.out.mono ?_; rintro e w1 ⟨rfl, rfl⟩)
  go_quiet (fail)
  go_wp2
  go_ret3
  refine ⟨rfl, v, ⟨?_, row_set H.out.row H.out.apart _ _, H.out.apart⟩, kept_drewN (kept_set (kept_refl _ _ _) _ _) _, fun k hk => .inl hk⟩
  exact (H.out.box.set_ 0 _)
theorem undo_none (w : World) : Calls Try.prog 29 #[.pointer none] w (Same w (Three 0 0 false)) := by
  go_enter Try.func29, Try.ntmps29
  go_wp2
  go_ret3
  exact ⟨rfl, rfl⟩
theorem undo_stay (g : Nat) (v : Value) (L : Led) (w : World) (h : IsLed w g v L) (ho : L.list ≠ [] ∨ L.spilt = true) : Calls Try.prog 29 #[.pointer (some ⟨g, 0, none⟩)] w (Same w (Three 0 0 false)) := by
  obtain ⟨A, cap, rfl, _⟩ := h.row.slice
  have hl := h.row.1
  have c3 : w.cell? ⟨g, 3, Option.none⟩ = some (.slice A L.list.length cap) := h.box.cell 3
  have c4 : w.cell? ⟨g, 4, Option.none⟩ = some (.bool L.spilt) := h.box.cell 4
  by_cases h1 : L.list = []
  · have h2 : L.spilt = true := ho.resolve_left (fun c => c h1)
    rw [h1] at c3
    rw [h2] at c4
    simp only [List.length_nil] at c3
    clear ho h h1 h2 hl
    go_enter Try.func29, Try.ntmps29
    go_wp2
    go_ret3
    exact ⟨rfl, rfl⟩
  · have h2 : 0 < L.list.length := List.length_pos_iff.2 h1
    have h3 : (0 : Int) < (L.list.length : Int) := by omega
    clear ho h h1
    generalize L.list.length = n at *
    generalize L.spilt = sp at *
    go_enter Try.func29, Try.ntmps29
    go_wp2
    go_ret3
    exact ⟨rfl, rfl⟩
theorem undo_go (g : Nat) (v : Value) (L : Led) (w : World) (h : IsLed w g v L) (h1 : L.list = []) (h2 : L.spilt = false) {Q : Ending → World → Prop} (K : Calls Try.prog 35 #[.pointer (some ⟨g, 0, none⟩)] w fun e w' => ∃ a b o, e = .returned (Three a b o) ∧ Q e w') : Calls Try.prog 29 #[.pointer (some ⟨g, 0, none⟩)] w Q := by
  obtain ⟨A, cap, rfl, _⟩ := h.row.slice
  have c3 : w.cell? ⟨g, 3, Option.none⟩ = some (.slice A L.list.length cap) := h.box.cell 3
  have c4 : w.cell? ⟨g, 4, Option.none⟩ = some (.bool L.spilt) := h.box.cell 4
  rw [h1] at c3
  rw [h2] at c4
  simp only [List.length_nil] at c3
  have KK := Lib.hid K
  clear h h1 h2 K
  go_enter Try.func29, Try.ntmps29
  go_wp2_with fail
  refine KK.out.mono ?_
  rintro e w1 ⟨a, b, o, rfl, hq⟩
  have HQ := Lib.hid hq
  clear hq
  unfold Three
  go_wp2
  go_ret3
  exact HQ.out
end Go.Proofs.Ytaokiocpfpdmkaa.Led
