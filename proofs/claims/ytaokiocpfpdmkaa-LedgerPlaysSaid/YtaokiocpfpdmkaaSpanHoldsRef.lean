/- Chapter 06: whether a span holds another one; the document's own. -/
import Derived.Test.YtaokiocpfpdmkaaSpanHolds
attribute [local go_sem ↓] Go.wp_at_zero Go.wp_at_succ
namespace Go.Proofs.Ytaokiocpfpdmkaa.Spans
open Go.BigFrame Go.RowKit Go.OpenShut Go.Proofs.Ytaokiocpfpdmkaa.Aid
theorem fields_of {P : Program} {t : TypeId} {fs : Array Field} (hu : P.underlying t = some (.struct fs)) (hp : P.stoodInHeld t = false) (d : Nat) (w : World) (xs ys : Array Value) :
    (Op.equalIn (d + 1) t (.agg xs) (.agg ys)).run P w = (Op.eqFields d xs ys fs.toList).run P w := by
  have hf : P.fieldsOf t = fs := by simp [Program.fieldsOf, hu]
  rw [run_equalIn_struct (P := P) w d t xs ys (by rw [hf]; exact hu) hp, hf]
theorem eq_spans (d : Nat) (w : World) (x0 y0 x1 y1 : Int) :
    (Op.equalIn (d + 2) 26 (.agg #[.int .i64 x0, .int .i64 x1]) (.agg #[.int .i64 y0, .int .i64 y1])).run Try.prog w = .ok (x0 == y0 && (x1 == y1)) w := by
  rw [fields_of Try.underlying26 (by kernel_rfl)]
  have h3 := Try.underlying3
  simp [Op.eqFields, run_equalIn_int, h3, go_sem]
  by_cases h : x0 = y0
  · by_cases g : x1 = y1 <;> simp [h, g]
  · simp [h]
attribute [local go_sem high] eq_spans
set_option maxRecDepth 100000 in
set_option maxHeartbeats 4000000 in
theorem rholds_calls (s t : Span) (w : World) : Calls Try.prog 22 #[.agg #[.int .i64 s.lo, .int .i64 s.hi], .agg #[.int .i64 t.lo, .int .i64 t.hi]] w (Gives w (.bool (holds s t))) := by
  have e : holds s t = (decide ((meet s t).lo = (plain t).lo) && decide ((meet s t).hi = (plain t).hi)) := by
    rw [holds_ref, Bool.eq_iff_iff]
    simp only [decide_eq_true_eq, Bool.and_eq_true]
    exact ⟨fun h => by rw [h]; exact ⟨rfl, rfl⟩, fun h => span_ext h.1 h.2⟩
  rw [e]
  clear e
  obtain ⟨W, hW⟩ : ∃ W, W = (w.alloc (.cells #[.int .i64 s.lo, .int .i64 s.hi] 26)).alloc (.cells #[.int .i64 t.lo, .int .i64 t.hi] 26) := ⟨_, rfl⟩
  have X : Blk W w.heap.size 26 #[.int .i64 s.lo, .int .i64 s.hi] := by rw [hW]; exact (Blk.new w _ _).alloc _
  have Y : Blk W (w.heap.size + 1) 26 #[.int .i64 t.lo, .int .i64 t.hi] := by
    rw [hW]
    have := Blk.new (w.alloc (.cells #[.int .i64 s.lo, .int .i64 s.hi] 26)) 26 #[.int .i64 t.lo, .int .i64 t.hi]
    simpa using this
  have B := Lib.hid (show Below w.heap.size w W by rw [hW]; exact bn_alloc (bn_alloc (Below.refl _ w) _) _)
  have e0 : ∀ d os, (Go.Sort.grow (redrawn W d) os).cell? ⟨w.heap.size, 0, Option.none⟩ = some (.int .i64 s.lo) := fun d os => (X.regrown d os).cell 0
  have e1 : ∀ d os, (Go.Sort.grow (redrawn W d) os).cell? ⟨w.heap.size, 1, Option.none⟩ = some (.int .i64 s.hi) := fun d os => (X.regrown d os).cell 1
  have e2 : ∀ d os, (Go.Sort.grow (redrawn W d) os).cell? ⟨w.heap.size + 1, 0, Option.none⟩ = some (.int .i64 t.lo) := fun d os => (Y.regrown d os).cell 0
  have e3 : ∀ d os, (Go.Sort.grow (redrawn W d) os).cell? ⟨w.heap.size + 1, 1, Option.none⟩ = some (.int .i64 t.hi) := fun d os => (Y.regrown d os).cell 1
  have c1 := Lib.hid (fun d os => Calls.regrown_of (meet_ref s t (Go.Sort.grow (redrawn W d) os)))
  have c2 := Lib.hid (fun d os => Calls.regrown_of (of_ref t (Go.Sort.grow (redrawn W d) os)))
  generalize meet s t = m at *
  generalize plain t = q at *
  clear X Y
  go_enter Try.func22, Try.ntmps22
  go_upto_region 1 with fail
  rw [← hW]
  clear hW
  refine wp_region_quiet_below (by kernel_rfl) (by kernel_rfl) ?_
  repeat (go_big_quiet_step (first | exact c1.out _ _ | exact c2.out _ _))
  refine wpQuiet_nil ?_
  rintro _ ⟨⟨nq, osq⟩, rfl⟩
  go_wp2
  go_ret
  refine ⟨?_, B.out.trans ((below_regrown W nq osq).mono B.out.size)⟩
  first | rfl | (apply ret_bool; rw [Bool.eq_iff_iff]; simp)
end Go.Proofs.Ytaokiocpfpdmkaa.Spans
