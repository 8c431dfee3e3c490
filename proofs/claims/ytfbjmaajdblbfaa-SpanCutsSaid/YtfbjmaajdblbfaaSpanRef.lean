/- Chapter 06: the document's May and Of. -/
import Derived.Test.YtfbjmaajdblbfaaSpan
import Derived.Test.YtfbjmaajdblbfaaRegrown
import Derived.Deep.DeepCutAuto
namespace Go.Proofs.Ytfbjmaajdblbfaa.Spans
open Go.BigFrame Go.RowKit Go.OpenShut Go.Proofs.Ytfbjmaajdblbfaa.Aid
attribute [local go_sem] max_2 min_2 max2_i min2_i
theorem may_ref (s : Span) (w : World) : Calls Try.prog 28 #[.agg #[.int .i64 s.lo, .int .i64 s.hi]] w (Gives w (.bool (decide (May s)))) := by
  obtain ⟨lo, hi⟩ := s
  by_cases h1 : 0 ≤ lo
  · by_cases h2 : lo ≤ hi
    · by_cases h3 : hi ≤ 4611686018427387904
      · rw [show decide (May ⟨lo, hi⟩) = true from decide_eq_true ⟨h1, h2, h3⟩]
        go_enter Try.func28, Try.ntmps28
        go_wp2
        go_ret
        exact ⟨rfl, (Below.refl _ w).alloc (Nat.le_refl _) _⟩
      · rw [show decide (May ⟨lo, hi⟩) = false from decide_eq_false (fun h => h3 h.2.2)]
        go_enter Try.func28, Try.ntmps28
        go_wp2
        go_ret
        exact ⟨rfl, (Below.refl _ w).alloc (Nat.le_refl _) _⟩
    · rw [show decide (May ⟨lo, hi⟩) = false from decide_eq_false (fun h => h2 h.2.1)]
      go_enter Try.func28, Try.ntmps28
      go_wp2
      go_ret
      exact ⟨rfl, (Below.refl _ w).alloc (Nat.le_refl _) _⟩
  · rw [show decide (May ⟨lo, hi⟩) = false from decide_eq_false (fun h => h1 h.1)]
    go_enter Try.func28, Try.ntmps28
    go_wp2
    go_ret
    exact ⟨rfl, (Below.refl _ w).alloc (Nat.le_refl _) _⟩
theorem of_ref (s : Span) (w : World) : Calls Try.prog 23 #[.agg #[.int .i64 s.lo, .int .i64 s.hi]] w (Gives w (.agg #[.int .i64 (plain s).lo, .int .i64 (plain s).hi])) := by
  have M := Lib.hid (may_ref s)
  obtain ⟨lo, hi⟩ := s
  by_cases h1 : May ⟨lo, hi⟩
  · rw [show decide (May ⟨lo, hi⟩) = true from decide_eq_true h1] at M
    by_cases h2 : lo = hi
    · have e : plain ⟨lo, hi⟩ = ⟨0, 0⟩ := by rw [plain, if_neg (fun h => h.2 h2)]
      rw [e]
      have hd : (lo == hi) = true := by simpa using h2
      clear e h1 h2
      go_enter Try.func23, Try.ntmps23
      go_wp2_with (go_at_call 28; refine (M.out _).mono ?_; rintro e w1 ⟨rfl, hb⟩; obtain ⟨hc, hf⟩ := bcell hb; have hz : w.heap.size + 1 < w1.heap.size := by have := hb.size; simp at this; omega)
      refine bodyPost_ret (v := .agg #[.int .i64 0, .int .i64 0]) (by simp [results, Try.results23, go_sem, hc]) rfl ⟨rfl, ?_⟩
      exact ((below2 hb).setCell (by simp) _).setCell (by simp) _
    · have e : plain ⟨lo, hi⟩ = ⟨lo, hi⟩ := by rw [plain, if_pos ⟨h1, h2⟩]
      rw [e]
      have hd : (lo == hi) = false := by simpa using h2
      clear e h1 h2
      go_enter Try.func23, Try.ntmps23
      go_wp2_with (go_at_call 28; refine (M.out _).mono ?_; rintro e w1 ⟨rfl, hb⟩; obtain ⟨hc, hf⟩ := bcell hb; have hz : w.heap.size + 1 < w1.heap.size := by have := hb.size; simp at this; omega)
      refine bodyPost_ret (v := .agg #[.int .i64 lo, .int .i64 hi]) (by simp [results, Try.results23, go_sem, hc]) rfl ⟨rfl, ?_⟩
      exact ((below2 hb).setCell (by simp) _).setCell (by simp) _
  · rw [show decide (May ⟨lo, hi⟩) = false from decide_eq_false h1] at M
    have e : plain ⟨lo, hi⟩ = ⟨0, 0⟩ := by rw [plain, if_neg (fun h => h1 h.1)]
    rw [e]
    clear e h1
    go_enter Try.func23, Try.ntmps23
    go_wp2_with (go_at_call 28; refine (M.out _).mono ?_; rintro e w1 ⟨rfl, hb⟩; obtain ⟨hc, hf⟩ := bcell hb; have hz : w.heap.size + 1 < w1.heap.size := by have := hb.size; simp at this; omega)
    refine bodyPost_ret (v := .agg #[.int .i64 0, .int .i64 0]) (by simp [results, Try.results23, go_sem, hc]) rfl ⟨rfl, ?_⟩
    exact ((below2 hb).setCell (by simp) _).setCell (by simp) _
theorem field_0 (a b : Value) (w : World) : (Instr.field 23 (.agg #[a, b]) 0).run Try.prog w = .ok a w := by
  simp [Instr.field, run_underlying Try.underlying23, asAgg, go_sem]
theorem field_1 (a b : Value) (w : World) : (Instr.field 23 (.agg #[a, b]) 1).run Try.prog w = .ok b w := by
  simp [Instr.field, run_underlying Try.underlying23, asAgg, go_sem]
attribute [local go_sem] field_0 field_1
theorem len_ref (s : Span) (w : World) : Calls Try.prog 25 #[.agg #[.int .i64 s.lo, .int .i64 s.hi]] w (Gives w (.int .i64 (len s))) := by
  have hp := plain_plain s
  have e : len s = (plain s).hi - (plain s).lo := rfl
  rw [e]
  obtain ⟨h1, h2, h3, _⟩ := hp
  clear e
  obtain ⟨W, hW⟩ : ∃ W, W = w.alloc (.cells #[.int .i64 s.lo, .int .i64 s.hi] 23) := ⟨_, rfl⟩
  have X : Blk W w.heap.size 23 #[.int .i64 s.lo, .int .i64 s.hi] := by rw [hW]; exact Blk.new w _ _
  have B := Lib.hid (show Below w.heap.size w W by rw [hW]; exact (Below.refl _ w).alloc (Nat.le_refl _) _)
  have e0 : ∀ d os, (Go.Sort.grow (redrawn W d) os).cell? ⟨w.heap.size, 0, Option.none⟩ = some (.int .i64 s.lo) := fun d os => (X.regrown d os).cell 0
  have e1 : ∀ d os, (Go.Sort.grow (redrawn W d) os).cell? ⟨w.heap.size, 1, Option.none⟩ = some (.int .i64 s.hi) := fun d os => (X.regrown d os).cell 1
  have c1 := Lib.hid (fun d os => Calls.regrown_of (of_ref s (Go.Sort.grow (redrawn W d) os)))
  generalize (plain s).lo = a at *
  generalize (plain s).hi = b at *
  clear X
  go_enter Try.func25, Try.ntmps25
  go_upto_region 1 with fail
  rw [← hW]
  clear hW
  refine wp_region_quiet_below (by kernel_rfl) (by kernel_rfl) ?_
  repeat (go_big_quiet_step (exact c1.out _ _))
  refine wpQuiet_nil ?_
  rintro _ ⟨⟨nq, osq⟩, rfl⟩
  go_wp2
  go_ret
  exact ⟨rfl, B.out.trans ((below_regrown W nq osq).mono B.out.size)⟩
end Go.Proofs.Ytfbjmaajdblbfaa.Spans
