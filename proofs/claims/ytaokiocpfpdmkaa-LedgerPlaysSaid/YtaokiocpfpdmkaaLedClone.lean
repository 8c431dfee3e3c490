/- Chapter 19 (ledger): Clone. -/
import Derived.Test.YtaokiocpfpdmkaaLedRef3
import Derived.Laws.Cover3
set_option linter.unusedSimpArgs false
set_option linter.unusedVariables false
attribute [local go_sem ↓] Go.wp_at_zero Go.wp_at_succ
namespace Go.Proofs.Ytaokiocpfpdmkaa.Led
open Go.BigFrame Go.RowKit Go.OpenShut Go.Proofs.Ytaokiocpfpdmkaa.Aid Go.Proofs.Ytaokiocpfpdmkaa.Spans
theorem eql_nil (a : Option Addr) (l c : Nat) (w : World) : (binOp .eql 27 (.slice a l c) (.slice Option.none 0 0)).run Try.prog w = .ok (.bool a.isNone) w := by
  simp only [binOp]
  simp [run_equal_slice_nil w 27 26 a l c Try.underlying27]
attribute [local go_sem high] eql_nil
def Fresh (w : World) (xs : List Span) (e : Ending) (w' : World) : Prop := ∃ v, e = .returned v ∧ RowOf 26 2 encS w' v xs ∧ Below w.heap.size w w' ∧ ∀ k, v.ownBlock = some k → w.heap.size ≤ k
set_option maxRecDepth 100000 in
set_option maxHeartbeats 4000000 in
theorem sclone_calls (v : Value) (xs : List Span) (w : World) (h : RowOf 26 2 encS w v xs) (hl : xs.length ≤ 256) : Calls Try.prog 63 #[v] w (Fresh w xs) := by
  obtain ⟨i0, hi, hz0, hz1, hz2⟩ := info_parts info26
  have H := Lib.hid h
  obtain ⟨h0, h00⟩ | ⟨b, cap, cur, rfl, r1, r2, r3, r4, r5⟩ := h
  · subst h0 h00
    go_enter Try.func63, Try.ntmps63
    go_wp2
    go_ret
    exact ⟨_, rfl, .inl ⟨rfl, rfl⟩, Below.refl _ _, by simp [Value.ownBlock]⟩
  · obtain ⟨A, c, e, hA, hR⟩ := srcS H.out
    injection e with e1 e2 e3
    subst e1 e3
    have R := Lib.hid hR
    clear r1 r2 r3 r4 r5 hA hR
    go_enter Try.func63, Try.ntmps63
    go_wp2_with (at_builtin; refine wpList_append_any (by rfl) _ _ 27 (by rfl) i0 _ 16 Try.underlying27 hi hz0 hz1 hz2 (by decide) (by decide) encS_len encS_one (.slice (some ⟨w.heap.size, 0, Option.none⟩) 0 0) ([] : List Span) (by rfl) (row_newS w) _ xs.length cap xs rfl (by rfl) (fun h => by cases h) (R.out.below ((Below.refl _ w).alloc (Nat.le_refl _) _)) ?k2 ?k3 ?k4)
    case k2 => unfold maxLen; omega
    case k3 => omega
    case k4 =>
      intro v2 w2 hr ha
      have HR := Lib.hid hr
      have HA := Lib.hid ha
      clear hr ha
      go_wp2
      go_ret
      refine ⟨v2, rfl, HR.out, below_app ((Below.refl _ w).alloc (Nat.le_refl _) _) HA.out (fun k hk => by
        have : w.heap.size = k := by simpa [Value.ownBlock] using hk
        omega), fun k hk => ?_⟩
      rcases HA.out.own k hk with h1 | h1
      · have : w.heap.size = k := by simpa [Value.ownBlock] using h1
        omega
      · simp at h1
        omega
/-- A clone: a ledger of the call's own. -/
def Cloned (w : World) (L : Led) (e : Ending) (w' : World) : Prop :=
  ∃ g v, e = .returned (.pointer (some ⟨g, 0, Option.none⟩)) ∧ IsLed w' g v L ∧ Below w.heap.size w w' ∧ w.heap.size ≤ g ∧ ∀ k, v.ownBlock = some k → w.heap.size ≤ k
set_option maxRecDepth 100000 in
set_option maxHeartbeats 4000000 in
theorem clone_calls (g : Nat) (v : Value) (L : Led) (w : World) (h : IsLed w g v L) : Calls Try.prog 31 #[.pointer (some ⟨g, 0, Option.none⟩)] w (Cloned w L) := by
  obtain ⟨A, n, cap, hv⟩ := h.row.2.some_slice
  subst hv
  have x0 := h.box.cell 0
  have x1 := h.box.cell 1
  have x2 := h.box.cell 2
  have x3 := h.box.cell 3
  have x4 := h.box.cell 4
  simp [cells] at x0 x1 x2 x3 x4
  have H := Lib.hid h
  have N := Lib.hid (h.below ((Below.refl _ w).alloc (Nat.le_refl _) (.cells (cells L (.slice A n cap)) 102)))
  have z3 := N.out.box.cell 3
  have B0 := Lib.hid (Blk.new w 102 (cells L (.slice A n cap)))
  simp [cells] at z3
  go_enter Try.func31, Try.ntmps31
  go_wp2_with fail
  refine (sclone_calls (.slice A n cap) L.list _ N.out.row.2 N.out.row.1).mono ?_
  rintro e w1 ⟨v1, rfl, r1, b1, o1⟩
  obtain ⟨A1, n1, c1, rfl⟩ := r1.some_slice
  have B1 := Lib.hid (B0.out.below b1 B0.out.lt)
  have y3 := B1.out.cell 3
  have fz := B1.out.frozen
  simp [cells] at y3
  have R1 := Lib.hid r1
  have O1 := Lib.hid o1
  have L1 := Lib.hid (below1 b1)
  clear r1 b1 o1
  go_wp2
  go_ret
  have hne : ∀ k, (Value.slice A1 n1 c1).ownBlock = some k → k ≠ w.heap.size := fun k hk => by
    have := O1.out k hk
    simp at this
    omega
  refine ⟨w.heap.size, .slice A1 n1 c1, rfl, ⟨(B1.out.set_ 3 _).eq (by simp [cells]), ⟨H.out.row.1, R1.out.same (fun k hk => Below.heap_setCell _ _ _ k (hne k hk))⟩, fun e => hne _ e rfl⟩, L1.out.setCell (Nat.le_refl _) _, Nat.le_refl _, fun k hk => ?_⟩
  have := O1.out k hk
  simp at this
  omega
end Go.Proofs.Ytaokiocpfpdmkaa.Led
