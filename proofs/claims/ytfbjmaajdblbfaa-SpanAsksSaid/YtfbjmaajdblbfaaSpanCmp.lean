/- Chapter 06: Compare, and the library's functions that it calls. -/
import Derived.Test.YtfbjmaajdblbfaaSpanTouch
import Derived.LoopNIn
set_option linter.unusedSimpArgs false
set_option linter.unusedVariables false
attribute [local go_sem ↓] Go.wp_at_zero Go.wp_at_succ
namespace Go.Proofs.Ytfbjmaajdblbfaa.Spans
open Go.BigFrame Go.RowKit Go.OpenShut Go.Proofs.Ytfbjmaajdblbfaa.Aid
def Same (w : World) (v : Value) (e : Ending) (w' : World) : Prop := e = .returned v ∧ w = w'
def cmp (x y : Int) : Int := if x < y then -1 else if y < x then 1 else 0
theorem isNaN_calls (x : Int) (w : World) : Calls Try.prog 62 #[.int .i64 x] w (Same w (.bool false)) := by
  go_enter Try.func62, Try.ntmps62
  go_wp2
  go_ret
  exact ⟨by first | rfl | simp, rfl⟩
theorem cmp_calls (x y : Int) (w : World) : Calls Try.prog 55 #[.int .i64 x, .int .i64 y] w (Same w (.int .i64 (cmp x y))) := by
  have N := Lib.hid isNaN_calls
  obtain ⟨r, hr⟩ : ∃ r, r = cmp x y := ⟨_, rfl⟩
  rw [← hr]
  unfold cmp at hr
  by_cases h1 : x < y
  · rw [if_pos h1] at hr
    subst hr
    go_enter Try.func55, Try.ntmps55
    go_wp2_with ((refine (N.out _ _).mono ?_); rintro e w1 ⟨rfl, rfl⟩)
    go_ret
    exact ⟨rfl, rfl⟩
  · by_cases h2 : y < x
    · rw [if_neg h1, if_pos h2] at hr
      subst hr
      go_enter Try.func55, Try.ntmps55
      go_wp2_with ((refine (N.out _ _).mono ?_); rintro e w1 ⟨rfl, rfl⟩)
      go_ret
      exact ⟨rfl, rfl⟩
    · rw [if_neg h1, if_neg h2] at hr
      subst hr
      go_enter Try.func55, Try.ntmps55
      go_wp2_with ((refine (N.out _ _).mono ?_); rintro e w1 ⟨rfl, rfl⟩)
      go_ret
      exact ⟨rfl, rfl⟩
def or2 (x y : Int) : Int := if x = 0 then y else x
theorem or_calls (x y : Int) (H c : Nat) (w : World) (h0 : w.cell? ⟨H, 0, Option.none⟩ = some (.int .i64 x)) (h1 : w.cell? ⟨H, 1, Option.none⟩ = some (.int .i64 y)) :
    Calls Try.prog 54 #[.slice (some ⟨H, 0, Option.none⟩) 2 c] w (Same w (.int .i64 (or2 x y))) := by
  obtain ⟨r, hr⟩ : ∃ r, r = or2 x y := ⟨_, rfl⟩
  rw [← hr]
  unfold or2 at hr
  by_cases hx : x = 0
  · subst hx
    rw [if_pos rfl] at hr
    subst hr
    by_cases hy : r = 0
    · subst hy
      go_enter Try.func54, Try.ntmps54
      go_wp2
      refine wp_loop_rounds 3 ?_
      rw [rounds_succ]
      go_wp2
      rw [rounds_succ]
      go_wp2
      rw [rounds_succ]
      go_wp2
      go_ret
      exact ⟨rfl, rfl⟩
    · have hy1 : (r == 0) = false := by simpa using hy
      have hy2 : decide (r = 0) = false := by simpa using hy
      have hy3 : (r != 0) = true := by simpa using hy
      go_enter Try.func54, Try.ntmps54
      go_wp2
      refine wp_loop_rounds 3 ?_
      rw [rounds_succ]
      go_wp2
      rw [rounds_succ]
      go_wp2
      go_ret
      exact ⟨rfl, rfl⟩
  · rw [if_neg hx] at hr
    subst hr
    have hy1 : (r == 0) = false := by simpa using hx
    have hy2 : decide (r = 0) = false := by simpa using hx
    have hy3 : (r != 0) = true := by simpa using hx
    go_enter Try.func54, Try.ntmps54
    go_wp2
    refine wp_loop_rounds 3 ?_
    rw [rounds_succ]
    go_wp2
    go_ret
    exact ⟨rfl, rfl⟩
def order (s t : Span) : Int := or2 (cmp s.lo t.lo) (cmp s.hi t.hi)
theorem order_eq (s t : Span) : order s t = if s.lo < t.lo ∨ (s.lo = t.lo ∧ s.hi < t.hi) then -1 else if s.lo = t.lo ∧ s.hi = t.hi then 0 else 1 := by
  unfold order or2 cmp
  split <;> split <;> split <;> (try split) <;> (try split) <;> omega
set_option maxRecDepth 100000 in
set_option maxHeartbeats 4000000 in
theorem compare_calls (s t : Span) (w : World) : Calls Try.prog 33 #[.agg #[.int .i64 s.lo, .int .i64 s.hi], .agg #[.int .i64 t.lo, .int .i64 t.hi]] w (Gives w (.int .i64 (order s t))) := by
  have C1 := Lib.hid (cmp_calls s.lo t.lo)
  have C2 := Lib.hid (cmp_calls s.hi t.hi)
  have OO := Lib.hid (or_calls (cmp s.lo t.lo) (cmp s.hi t.hi))
  have e : order s t = or2 (cmp s.lo t.lo) (cmp s.hi t.hi) := rfl
  rw [e]
  clear e
  generalize cmp s.lo t.lo = a at *
  generalize cmp s.hi t.hi = b at *
  generalize or2 a b = r at *
  obtain ⟨W, hW⟩ : ∃ W, W = (w.alloc (.cells #[.int .i64 s.lo, .int .i64 s.hi] 23)).alloc (.cells #[.int .i64 t.lo, .int .i64 t.hi] 23) := ⟨_, rfl⟩
  have c0 : W.cell? ⟨w.heap.size, 0, Option.none⟩ = some (.int .i64 s.lo) := by rw [hW]; exact ((Blk.new w _ _).alloc _).cell 0
  have c1 : W.cell? ⟨w.heap.size, 1, Option.none⟩ = some (.int .i64 s.hi) := by rw [hW]; exact ((Blk.new w _ _).alloc _).cell 1
  have X := at2_new (W := w.alloc (.cells #[.int .i64 s.lo, .int .i64 s.hi] 23)) (s := t) (g := w.heap.size + 1) (by simp)
  rw [← hW] at X
  obtain ⟨c2, c3⟩ := X
  have B := Lib.hid (show Below w.heap.size w W by rw [hW]; exact bn_alloc (bn_alloc (Below.refl _ w) _) _)
  have hs : w.heap.size + 1 < W.heap.size := by rw [hW]; simp
  have s1 : w.heap.size ≠ W.heap.size := by omega
  have s2 : w.heap.size + 1 ≠ W.heap.size := by omega
  go_enter Try.func33, Try.ntmps33
  go_upto_region 1 with fail
  rw [← hW]
  clear hW
  go_region_held3 (fun w' => w'.cell? ⟨w.heap.size, 0, Option.none⟩ = some (.int .i64 s.lo) ∧ w'.cell? ⟨w.heap.size, 1, Option.none⟩ = some (.int .i64 s.hi) ∧ w'.cell? ⟨w.heap.size + 1, 0, Option.none⟩ = some (.int .i64 t.lo) ∧ w'.cell? ⟨w.heap.size + 1, 1, Option.none⟩ = some (.int .i64 t.hi)) (go_keep) (first
    | (go_at_call 55
       with_reducible refine (C1.out _).mono ?_
       rintro e w1 ⟨rfl, rfl⟩)
    | (go_at_call 55
       with_reducible refine (C2.out _).mono ?_
       rintro e w1 ⟨rfl, rfl⟩)
    | (go_at_call 54
       refine (OO.out _ _ _ ((Blk.drew (Blk.new W 3 #[.int .i64 a, .int .i64 b])).cell 0) ((Blk.drew (Blk.new W 3 #[.int .i64 a, .int .i64 b])).cell 1)).mono ?_
       rintro e w1 ⟨rfl, rfl⟩))
  all_goals
    go_wp2
    go_ret
    exact ⟨rfl, bn_alloc (bn_drew B.out) _⟩
end Go.Proofs.Ytfbjmaajdblbfaa.Spans
