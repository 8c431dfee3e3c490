/- Chapter 06: whether a span holds another one; the code's and the document's own. -/
import Derived.Test.YtaokiocpfpdmkaaSpanRef2
attribute [local go_sem ↓] Go.wp_at_zero Go.wp_at_succ
namespace Go.Proofs.Ytaokiocpfpdmkaa.Spans
open Go.BigFrame Go.RowKit Go.OpenShut Go.Proofs.Ytaokiocpfpdmkaa.Aid
theorem none_plain (s : Span) : none (plain s) = none s := by
  rw [Bool.eq_iff_iff, none_iff, none_iff, plain_id (plain_plain s)]
set_option maxRecDepth 100000 in
set_option maxHeartbeats 4000000 in
theorem holds_calls (s t : Span) (w : World) : Calls Try.prog 62 #[.agg #[.int .i64 s.lo, .int .i64 s.hi], .agg #[.int .i64 t.lo, .int .i64 t.hi]] w (Gives w (.bool (holds s t))) := by
  have M := Lib.hid (plain_calls s)
  have N := Lib.hid (plain_calls t)
  have O := Lib.hid (none_calls (plain t))
  have e : holds s t = (none (plain t) || (decide ((plain s).lo ≤ (plain t).lo) && decide ((plain t).hi ≤ (plain s).hi))) := by rw [none_plain]; rfl
  rw [e]
  clear e
  generalize none (plain t) = b at *
  generalize plain s = p at *
  generalize plain t = q at *
  go_enter Try.func62, Try.ntmps62
  go_wp2
  go_region_with (first
    | ((with_reducible refine (M.out _).mono ?_); rintro e w1 ⟨rfl, b1⟩; obtain ⟨hc1, hf1⟩ := bcell b1; have z1 := b1.size; (try simp only [World.size_alloc, World.size_drew] at z1); have ya1 : w.heap.size < w1.heap.size := (by omega); have yb1 : w.heap.size + 1 < w1.heap.size := by omega)
    | ((with_reducible refine (N.out _).mono ?_); rintro e w2 ⟨rfl, b2⟩; obtain ⟨hc2, hf2⟩ := bcell b2; have z2 := b2.size; (try simp only [World.size_alloc, World.size_drew] at z2); have ya2 : w.heap.size < w2.heap.size := (by omega); have yb2 : w.heap.size + 1 < w2.heap.size := by omega))
  all_goals
    cases b <;> by_cases h : p.lo ≤ q.lo
    all_goals
      go_wp2_with ((with_reducible refine (O.out _).mono ?_); rintro e w3 ⟨rfl, b3⟩; obtain ⟨x0, x1⟩ : At2 w3 w.heap.size p := at2_call (by repeat (first | (with_reducible refine at2_far ?_ (by dsimp only; omega)) | (with_reducible refine at2_stored (z := s) ?_) | (with_reducible refine at2_call ?_ b2) | (with_reducible refine at2_call ?_ b1) | (with_reducible refine at2_drew ?_) | (with_reducible refine at2_new (s := s) ?_; simp; done) | (with_reducible refine at2_new (s := s) ?_; rfl) | (with_reducible refine at2_alloc ?_ _))) b3; obtain ⟨x2, x3⟩ : At2 w3 (w.heap.size + 1) q := at2_call (by repeat (first | (with_reducible refine at2_far ?_ (by dsimp only; omega)) | (with_reducible refine at2_stored (z := t) ?_) | (with_reducible refine at2_call ?_ b2) | (with_reducible refine at2_call ?_ b1) | (with_reducible refine at2_drew ?_) | (with_reducible refine at2_new (s := t) ?_; simp; done) | (with_reducible refine at2_new (s := t) ?_; rfl) | (with_reducible refine at2_alloc ?_ _))) b3)
      go_ret
      refine ⟨by first | rfl | (apply ret_bool; simp [h]; done) | (apply ret_bool; rw [Bool.eq_iff_iff]; simp; omega), ?_⟩
      repeat (first | exact Below.refl _ _ | with_reducible apply bn_alloc | with_reducible apply bn_drew | (with_reducible refine bn_set ?_ (by dsimp only; omega) _) | (with_reducible refine bn_then ?_ (by assumption)))
end Go.Proofs.Ytaokiocpfpdmkaa.Spans
