/- SpanAsks: which spans may be, how many offsets one has, which, and how it stands to another one. -/
import Derived.Test.YtfbjmaajdblbfaaSpanCmp
import Derived.Test.YtfbjmaajdblbfaaSpanC
set_option linter.unusedSimpArgs false
set_option linter.unusedVariables false
attribute [local go_sem ↓] Go.wp_at_zero Go.wp_at_succ
namespace Go.Proofs.Ytfbjmaajdblbfaa.Spans
open Go.BigFrame Go.RowKit Go.OpenShut Go.Proofs.Ytfbjmaajdblbfaa.Aid
def YesA (w : World) (e : Ending) (w' : World) : Prop := e = .returned (.bool true) ∧ Below w.heap.size w w'
set_option maxRecDepth 100000 in
set_option maxHeartbeats 8000000 in
theorem asks_lt (s t : Span) (off : Int) (w : World) (h : s.lo < t.lo) : Calls Try.prog 7 #[.agg #[.int .i64 s.lo, .int .i64 s.hi], .agg #[.int .i64 t.lo, .int .i64 t.hi], .int .i64 off] w (YesA w) := by
  have ho : order s t = -1 := by rw [order_eq]; rw [if_pos (.inl h)]
  have KN := Lib.hid known_c
  have T1 := Lib.hid ((Blk.new w 23 #[.int .i64 s.lo, .int .i64 s.hi]).alloc (.cells #[.int .i64 t.lo, .int .i64 t.hi] 23))
  have T2 : Hid (Blk ((w.alloc (.cells #[.int .i64 s.lo, .int .i64 s.hi] 23)).alloc (.cells #[.int .i64 t.lo, .int .i64 t.hi] 23)) (w.heap.size + 1) 23 #[.int .i64 t.lo, .int .i64 t.hi]) := Lib.hid (by
    have := Blk.new (w.alloc (.cells #[.int .i64 s.lo, .int .i64 s.hi] 23)) 23 #[.int .i64 t.lo, .int .i64 t.hi]
    simpa using this)
  go_enter Try.func7, Try.ntmps7
  go_wp2_with fail
  refine (KN.out _).mono ?_
  rintro e w1 ⟨rfl, b1⟩
  have X := T1.out.below b1 T1.out.lt
  have Y := T2.out.below b1 T2.out.lt
  have B := Lib.hid (bn_then (bn_alloc (bn_alloc (Below.refl _ w) _) _) b1)
  clear b1 T1 T2
  have a0 : w1.cell? ⟨w.heap.size, 0, Option.none⟩ = some (.int .i64 s.lo) := X.cell 0
  have a1 : w1.cell? ⟨w.heap.size, 1, Option.none⟩ = some (.int .i64 s.hi) := X.cell 1
  have a2 : w1.cell? ⟨w.heap.size + 1, 0, Option.none⟩ = some (.int .i64 t.lo) := Y.cell 0
  have a3 : w1.cell? ⟨w.heap.size + 1, 1, Option.none⟩ = some (.int .i64 t.hi) := Y.cell 1
  have XX := Lib.hid X
  have YY := Lib.hid Y
  have HO := Lib.hid ho
  clear X Y ho
  go_upto_region 8 with fail
  have e0 : ∀ d os, (Go.Sort.grow (redrawn w1 d) os).cell? ⟨w.heap.size, 0, Option.none⟩ = some (.int .i64 s.lo) := fun d os => (XX.out.regrown d os).cell 0
  have e1 : ∀ d os, (Go.Sort.grow (redrawn w1 d) os).cell? ⟨w.heap.size, 1, Option.none⟩ = some (.int .i64 s.hi) := fun d os => (XX.out.regrown d os).cell 1
  have e2 : ∀ d os, (Go.Sort.grow (redrawn w1 d) os).cell? ⟨w.heap.size + 1, 0, Option.none⟩ = some (.int .i64 t.lo) := fun d os => (YY.out.regrown d os).cell 0
  have e3 : ∀ d os, (Go.Sort.grow (redrawn w1 d) os).cell? ⟨w.heap.size + 1, 1, Option.none⟩ = some (.int .i64 t.hi) := fun d os => (YY.out.regrown d os).cell 1
  have k1 := Lib.hid (fun d os => Calls.regrown_of (may_calls s (Go.Sort.grow (redrawn w1 d) os)))
  have k2 := Lib.hid (fun d os => Calls.regrown_of (may_ref s (Go.Sort.grow (redrawn w1 d) os)))
  have k3 := Lib.hid (fun d os => Calls.regrown_of (len_calls s (Go.Sort.grow (redrawn w1 d) os)))
  have k4 := Lib.hid (fun d os => Calls.regrown_of (len_ref s (Go.Sort.grow (redrawn w1 d) os)))
  have k5 := Lib.hid (fun d os => Calls.regrown_of (has_calls s off (Go.Sort.grow (redrawn w1 d) os)))
  have k6 := Lib.hid (fun d os => Calls.regrown_of (rhas_calls s off (Go.Sort.grow (redrawn w1 d) os)))
  have k7 := Lib.hid (fun d os => Calls.regrown_of (holds_calls s t (Go.Sort.grow (redrawn w1 d) os)))
  have k8 := Lib.hid (fun d os => Calls.regrown_of (rholds_calls s t (Go.Sort.grow (redrawn w1 d) os)))
  have k9 := Lib.hid (fun d os => Calls.regrown_of (touch_c s t (Go.Sort.grow (redrawn w1 d) os)))
  have k10 := Lib.hid (fun d os => Calls.regrown_of (rtouch_calls s t (Go.Sort.grow (redrawn w1 d) os)))
  have k11 := Lib.hid (fun d os => Calls.regrown_of (compare_calls s t (Go.Sort.grow (redrawn w1 d) os)))
  have k12 := Lib.hid (fun d os => Calls.regrown_of (known_c (Go.Sort.grow (redrawn w1 d) os)))
  rw [HO.out] at k11
  generalize decide (May s) = bm at *
  generalize len s = ls at *
  generalize has s off = bh at *
  generalize holds s t = bo at *
  generalize touch s t = bt at *
  refine wp_region_quiet_below (by kernel_rfl) (by kernel_rfl) ?_
  repeat (go_big_quiet_step (first | exact k1.out _ _ | exact k2.out _ _ | exact k3.out _ _ | exact k4.out _ _ | exact k5.out _ _ | exact k6.out _ _ | exact k7.out _ _ | exact k8.out _ _ | exact k9.out _ _ | exact k10.out _ _ | exact k11.out _ _ | exact k12.out _ _))
  refine wpQuiet_nil ?_
  rintro _ ⟨⟨nq, osq⟩, rfl⟩
  go_wp2
  go_ret
  exact ⟨by first | rfl | (apply ret_bool; simp), B.out.trans ((below_regrown w1 nq osq).mono B.out.size)⟩
set_option maxRecDepth 100000 in
set_option maxHeartbeats 8000000 in
theorem asks_gt (s t : Span) (off : Int) (w : World) (h : t.lo < s.lo) : Calls Try.prog 7 #[.agg #[.int .i64 s.lo, .int .i64 s.hi], .agg #[.int .i64 t.lo, .int .i64 t.hi], .int .i64 off] w (YesA w) := by
  have ho : order s t = 1 := by rw [order_eq]; rw [if_neg (by omega), if_neg (by omega)]
  have KN := Lib.hid known_c
  have T1 := Lib.hid ((Blk.new w 23 #[.int .i64 s.lo, .int .i64 s.hi]).alloc (.cells #[.int .i64 t.lo, .int .i64 t.hi] 23))
  have T2 : Hid (Blk ((w.alloc (.cells #[.int .i64 s.lo, .int .i64 s.hi] 23)).alloc (.cells #[.int .i64 t.lo, .int .i64 t.hi] 23)) (w.heap.size + 1) 23 #[.int .i64 t.lo, .int .i64 t.hi]) := Lib.hid (by
    have := Blk.new (w.alloc (.cells #[.int .i64 s.lo, .int .i64 s.hi] 23)) 23 #[.int .i64 t.lo, .int .i64 t.hi]
    simpa using this)
  go_enter Try.func7, Try.ntmps7
  go_wp2_with fail
  refine (KN.out _).mono ?_
  rintro e w1 ⟨rfl, b1⟩
  have X := T1.out.below b1 T1.out.lt
  have Y := T2.out.below b1 T2.out.lt
  have B := Lib.hid (bn_then (bn_alloc (bn_alloc (Below.refl _ w) _) _) b1)
  clear b1 T1 T2
  have a0 : w1.cell? ⟨w.heap.size, 0, Option.none⟩ = some (.int .i64 s.lo) := X.cell 0
  have a1 : w1.cell? ⟨w.heap.size, 1, Option.none⟩ = some (.int .i64 s.hi) := X.cell 1
  have a2 : w1.cell? ⟨w.heap.size + 1, 0, Option.none⟩ = some (.int .i64 t.lo) := Y.cell 0
  have a3 : w1.cell? ⟨w.heap.size + 1, 1, Option.none⟩ = some (.int .i64 t.hi) := Y.cell 1
  have XX := Lib.hid X
  have YY := Lib.hid Y
  have HO := Lib.hid ho
  clear X Y ho
  have n1 : ¬ s.lo < t.lo := by omega
  have n2 : (s.lo == t.lo) = false := by simp; omega
  have n3 : decide (s.lo = t.lo) = false := by simp; omega
  go_upto_region 8 with fail
  have e0 : ∀ d os, (Go.Sort.grow (redrawn w1 d) os).cell? ⟨w.heap.size, 0, Option.none⟩ = some (.int .i64 s.lo) := fun d os => (XX.out.regrown d os).cell 0
  have e1 : ∀ d os, (Go.Sort.grow (redrawn w1 d) os).cell? ⟨w.heap.size, 1, Option.none⟩ = some (.int .i64 s.hi) := fun d os => (XX.out.regrown d os).cell 1
  have e2 : ∀ d os, (Go.Sort.grow (redrawn w1 d) os).cell? ⟨w.heap.size + 1, 0, Option.none⟩ = some (.int .i64 t.lo) := fun d os => (YY.out.regrown d os).cell 0
  have e3 : ∀ d os, (Go.Sort.grow (redrawn w1 d) os).cell? ⟨w.heap.size + 1, 1, Option.none⟩ = some (.int .i64 t.hi) := fun d os => (YY.out.regrown d os).cell 1
  have k1 := Lib.hid (fun d os => Calls.regrown_of (may_calls s (Go.Sort.grow (redrawn w1 d) os)))
  have k2 := Lib.hid (fun d os => Calls.regrown_of (may_ref s (Go.Sort.grow (redrawn w1 d) os)))
  have k3 := Lib.hid (fun d os => Calls.regrown_of (len_calls s (Go.Sort.grow (redrawn w1 d) os)))
  have k4 := Lib.hid (fun d os => Calls.regrown_of (len_ref s (Go.Sort.grow (redrawn w1 d) os)))
  have k5 := Lib.hid (fun d os => Calls.regrown_of (has_calls s off (Go.Sort.grow (redrawn w1 d) os)))
  have k6 := Lib.hid (fun d os => Calls.regrown_of (rhas_calls s off (Go.Sort.grow (redrawn w1 d) os)))
  have k7 := Lib.hid (fun d os => Calls.regrown_of (holds_calls s t (Go.Sort.grow (redrawn w1 d) os)))
  have k8 := Lib.hid (fun d os => Calls.regrown_of (rholds_calls s t (Go.Sort.grow (redrawn w1 d) os)))
  have k9 := Lib.hid (fun d os => Calls.regrown_of (touch_c s t (Go.Sort.grow (redrawn w1 d) os)))
  have k10 := Lib.hid (fun d os => Calls.regrown_of (rtouch_calls s t (Go.Sort.grow (redrawn w1 d) os)))
  have k11 := Lib.hid (fun d os => Calls.regrown_of (compare_calls s t (Go.Sort.grow (redrawn w1 d) os)))
  have k12 := Lib.hid (fun d os => Calls.regrown_of (known_c (Go.Sort.grow (redrawn w1 d) os)))
  rw [HO.out] at k11
  generalize decide (May s) = bm at *
  generalize len s = ls at *
  generalize has s off = bh at *
  generalize holds s t = bo at *
  generalize touch s t = bt at *
  refine wp_region_quiet_below (by kernel_rfl) (by kernel_rfl) ?_
  repeat (go_big_quiet_step (first | exact k1.out _ _ | exact k2.out _ _ | exact k3.out _ _ | exact k4.out _ _ | exact k5.out _ _ | exact k6.out _ _ | exact k7.out _ _ | exact k8.out _ _ | exact k9.out _ _ | exact k10.out _ _ | exact k11.out _ _ | exact k12.out _ _))
  refine wpQuiet_nil ?_
  rintro _ ⟨⟨nq, osq⟩, rfl⟩
  go_wp2
  go_ret
  exact ⟨by first | rfl | (apply ret_bool; simp), B.out.trans ((below_regrown w1 nq osq).mono B.out.size)⟩
set_option maxRecDepth 100000 in
set_option maxHeartbeats 8000000 in
theorem asks_lt2 (s t : Span) (off : Int) (w : World) (h1 : s.lo = t.lo) (h : s.hi < t.hi) : Calls Try.prog 7 #[.agg #[.int .i64 s.lo, .int .i64 s.hi], .agg #[.int .i64 t.lo, .int .i64 t.hi], .int .i64 off] w (YesA w) := by
  have ho : order s t = -1 := by rw [order_eq]; rw [if_pos (.inr ⟨h1, h⟩)]
  have KN := Lib.hid known_c
  have H1 := Lib.hid h1
  clear h1
  have T1 := Lib.hid ((Blk.new w 23 #[.int .i64 s.lo, .int .i64 s.hi]).alloc (.cells #[.int .i64 t.lo, .int .i64 t.hi] 23))
  have T2 : Hid (Blk ((w.alloc (.cells #[.int .i64 s.lo, .int .i64 s.hi] 23)).alloc (.cells #[.int .i64 t.lo, .int .i64 t.hi] 23)) (w.heap.size + 1) 23 #[.int .i64 t.lo, .int .i64 t.hi]) := Lib.hid (by
    have := Blk.new (w.alloc (.cells #[.int .i64 s.lo, .int .i64 s.hi] 23)) 23 #[.int .i64 t.lo, .int .i64 t.hi]
    simpa using this)
  go_enter Try.func7, Try.ntmps7
  go_wp2_with fail
  refine (KN.out _).mono ?_
  rintro e w1 ⟨rfl, b1⟩
  have X := T1.out.below b1 T1.out.lt
  have Y := T2.out.below b1 T2.out.lt
  have B := Lib.hid (bn_then (bn_alloc (bn_alloc (Below.refl _ w) _) _) b1)
  clear b1 T1 T2
  have a0 : w1.cell? ⟨w.heap.size, 0, Option.none⟩ = some (.int .i64 s.lo) := X.cell 0
  have a1 : w1.cell? ⟨w.heap.size, 1, Option.none⟩ = some (.int .i64 s.hi) := X.cell 1
  have a2 : w1.cell? ⟨w.heap.size + 1, 0, Option.none⟩ = some (.int .i64 t.lo) := Y.cell 0
  have a3 : w1.cell? ⟨w.heap.size + 1, 1, Option.none⟩ = some (.int .i64 t.hi) := Y.cell 1
  have XX := Lib.hid X
  have YY := Lib.hid Y
  have HO := Lib.hid ho
  clear X Y ho
  have n1 : ¬ s.lo < t.lo := by have := H1.out; omega
  have n2 : (s.lo == t.lo) = true := by simpa using H1.out
  go_upto_region 8 with fail
  have e0 : ∀ d os, (Go.Sort.grow (redrawn w1 d) os).cell? ⟨w.heap.size, 0, Option.none⟩ = some (.int .i64 s.lo) := fun d os => (XX.out.regrown d os).cell 0
  have e1 : ∀ d os, (Go.Sort.grow (redrawn w1 d) os).cell? ⟨w.heap.size, 1, Option.none⟩ = some (.int .i64 s.hi) := fun d os => (XX.out.regrown d os).cell 1
  have e2 : ∀ d os, (Go.Sort.grow (redrawn w1 d) os).cell? ⟨w.heap.size + 1, 0, Option.none⟩ = some (.int .i64 t.lo) := fun d os => (YY.out.regrown d os).cell 0
  have e3 : ∀ d os, (Go.Sort.grow (redrawn w1 d) os).cell? ⟨w.heap.size + 1, 1, Option.none⟩ = some (.int .i64 t.hi) := fun d os => (YY.out.regrown d os).cell 1
  have k1 := Lib.hid (fun d os => Calls.regrown_of (may_calls s (Go.Sort.grow (redrawn w1 d) os)))
  have k2 := Lib.hid (fun d os => Calls.regrown_of (may_ref s (Go.Sort.grow (redrawn w1 d) os)))
  have k3 := Lib.hid (fun d os => Calls.regrown_of (len_calls s (Go.Sort.grow (redrawn w1 d) os)))
  have k4 := Lib.hid (fun d os => Calls.regrown_of (len_ref s (Go.Sort.grow (redrawn w1 d) os)))
  have k5 := Lib.hid (fun d os => Calls.regrown_of (has_calls s off (Go.Sort.grow (redrawn w1 d) os)))
  have k6 := Lib.hid (fun d os => Calls.regrown_of (rhas_calls s off (Go.Sort.grow (redrawn w1 d) os)))
  have k7 := Lib.hid (fun d os => Calls.regrown_of (holds_calls s t (Go.Sort.grow (redrawn w1 d) os)))
  have k8 := Lib.hid (fun d os => Calls.regrown_of (rholds_calls s t (Go.Sort.grow (redrawn w1 d) os)))
  have k9 := Lib.hid (fun d os => Calls.regrown_of (touch_c s t (Go.Sort.grow (redrawn w1 d) os)))
  have k10 := Lib.hid (fun d os => Calls.regrown_of (rtouch_calls s t (Go.Sort.grow (redrawn w1 d) os)))
  have k11 := Lib.hid (fun d os => Calls.regrown_of (compare_calls s t (Go.Sort.grow (redrawn w1 d) os)))
  have k12 := Lib.hid (fun d os => Calls.regrown_of (known_c (Go.Sort.grow (redrawn w1 d) os)))
  rw [HO.out] at k11
  generalize decide (May s) = bm at *
  generalize len s = ls at *
  generalize has s off = bh at *
  generalize holds s t = bo at *
  generalize touch s t = bt at *
  refine wp_region_quiet_below (by kernel_rfl) (by kernel_rfl) ?_
  repeat (go_big_quiet_step (first | exact k1.out _ _ | exact k2.out _ _ | exact k3.out _ _ | exact k4.out _ _ | exact k5.out _ _ | exact k6.out _ _ | exact k7.out _ _ | exact k8.out _ _ | exact k9.out _ _ | exact k10.out _ _ | exact k11.out _ _ | exact k12.out _ _))
  refine wpQuiet_nil ?_
  rintro _ ⟨⟨nq, osq⟩, rfl⟩
  go_wp2
  go_ret
  exact ⟨by first | rfl | (apply ret_bool; simp), B.out.trans ((below_regrown w1 nq osq).mono B.out.size)⟩
set_option maxRecDepth 100000 in
set_option maxHeartbeats 8000000 in
theorem asks_gt2 (s t : Span) (off : Int) (w : World) (h1 : s.lo = t.lo) (h : t.hi < s.hi) : Calls Try.prog 7 #[.agg #[.int .i64 s.lo, .int .i64 s.hi], .agg #[.int .i64 t.lo, .int .i64 t.hi], .int .i64 off] w (YesA w) := by
  have ho : order s t = 1 := by rw [order_eq]; rw [if_neg (by omega), if_neg (by omega)]
  have KN := Lib.hid known_c
  have H1 := Lib.hid h1
  clear h1
  have T1 := Lib.hid ((Blk.new w 23 #[.int .i64 s.lo, .int .i64 s.hi]).alloc (.cells #[.int .i64 t.lo, .int .i64 t.hi] 23))
  have T2 : Hid (Blk ((w.alloc (.cells #[.int .i64 s.lo, .int .i64 s.hi] 23)).alloc (.cells #[.int .i64 t.lo, .int .i64 t.hi] 23)) (w.heap.size + 1) 23 #[.int .i64 t.lo, .int .i64 t.hi]) := Lib.hid (by
    have := Blk.new (w.alloc (.cells #[.int .i64 s.lo, .int .i64 s.hi] 23)) 23 #[.int .i64 t.lo, .int .i64 t.hi]
    simpa using this)
  go_enter Try.func7, Try.ntmps7
  go_wp2_with fail
  refine (KN.out _).mono ?_
  rintro e w1 ⟨rfl, b1⟩
  have X := T1.out.below b1 T1.out.lt
  have Y := T2.out.below b1 T2.out.lt
  have B := Lib.hid (bn_then (bn_alloc (bn_alloc (Below.refl _ w) _) _) b1)
  clear b1 T1 T2
  have a0 : w1.cell? ⟨w.heap.size, 0, Option.none⟩ = some (.int .i64 s.lo) := X.cell 0
  have a1 : w1.cell? ⟨w.heap.size, 1, Option.none⟩ = some (.int .i64 s.hi) := X.cell 1
  have a2 : w1.cell? ⟨w.heap.size + 1, 0, Option.none⟩ = some (.int .i64 t.lo) := Y.cell 0
  have a3 : w1.cell? ⟨w.heap.size + 1, 1, Option.none⟩ = some (.int .i64 t.hi) := Y.cell 1
  have XX := Lib.hid X
  have YY := Lib.hid Y
  have HO := Lib.hid ho
  clear X Y ho
  have n1 : ¬ s.lo < t.lo := by have := H1.out; omega
  have n2 : (s.lo == t.lo) = true := by simpa using H1.out
  have n4 : ¬ s.hi < t.hi := by omega
  have n5 : (s.hi == t.hi) = false := by simp; omega
  go_upto_region 8 with fail
  have e0 : ∀ d os, (Go.Sort.grow (redrawn w1 d) os).cell? ⟨w.heap.size, 0, Option.none⟩ = some (.int .i64 s.lo) := fun d os => (XX.out.regrown d os).cell 0
  have e1 : ∀ d os, (Go.Sort.grow (redrawn w1 d) os).cell? ⟨w.heap.size, 1, Option.none⟩ = some (.int .i64 s.hi) := fun d os => (XX.out.regrown d os).cell 1
  have e2 : ∀ d os, (Go.Sort.grow (redrawn w1 d) os).cell? ⟨w.heap.size + 1, 0, Option.none⟩ = some (.int .i64 t.lo) := fun d os => (YY.out.regrown d os).cell 0
  have e3 : ∀ d os, (Go.Sort.grow (redrawn w1 d) os).cell? ⟨w.heap.size + 1, 1, Option.none⟩ = some (.int .i64 t.hi) := fun d os => (YY.out.regrown d os).cell 1
  have k1 := Lib.hid (fun d os => Calls.regrown_of (may_calls s (Go.Sort.grow (redrawn w1 d) os)))
  have k2 := Lib.hid (fun d os => Calls.regrown_of (may_ref s (Go.Sort.grow (redrawn w1 d) os)))
  have k3 := Lib.hid (fun d os => Calls.regrown_of (len_calls s (Go.Sort.grow (redrawn w1 d) os)))
  have k4 := Lib.hid (fun d os => Calls.regrown_of (len_ref s (Go.Sort.grow (redrawn w1 d) os)))
  have k5 := Lib.hid (fun d os => Calls.regrown_of (has_calls s off (Go.Sort.grow (redrawn w1 d) os)))
  have k6 := Lib.hid (fun d os => Calls.regrown_of (rhas_calls s off (Go.Sort.grow (redrawn w1 d) os)))
  have k7 := Lib.hid (fun d os => Calls.regrown_of (holds_calls s t (Go.Sort.grow (redrawn w1 d) os)))
  have k8 := Lib.hid (fun d os => Calls.regrown_of (rholds_calls s t (Go.Sort.grow (redrawn w1 d) os)))
  have k9 := Lib.hid (fun d os => Calls.regrown_of (touch_c s t (Go.Sort.grow (redrawn w1 d) os)))
  have k10 := Lib.hid (fun d os => Calls.regrown_of (rtouch_calls s t (Go.Sort.grow (redrawn w1 d) os)))
  have k11 := Lib.hid (fun d os => Calls.regrown_of (compare_calls s t (Go.Sort.grow (redrawn w1 d) os)))
  have k12 := Lib.hid (fun d os => Calls.regrown_of (known_c (Go.Sort.grow (redrawn w1 d) os)))
  rw [HO.out] at k11
  generalize decide (May s) = bm at *
  generalize len s = ls at *
  generalize has s off = bh at *
  generalize holds s t = bo at *
  generalize touch s t = bt at *
  refine wp_region_quiet_below (by kernel_rfl) (by kernel_rfl) ?_
  repeat (go_big_quiet_step (first | exact k1.out _ _ | exact k2.out _ _ | exact k3.out _ _ | exact k4.out _ _ | exact k5.out _ _ | exact k6.out _ _ | exact k7.out _ _ | exact k8.out _ _ | exact k9.out _ _ | exact k10.out _ _ | exact k11.out _ _ | exact k12.out _ _))
  refine wpQuiet_nil ?_
  rintro _ ⟨⟨nq, osq⟩, rfl⟩
  go_wp2
  go_ret
  exact ⟨by first | rfl | (apply ret_bool; simp), B.out.trans ((below_regrown w1 nq osq).mono B.out.size)⟩
set_option maxRecDepth 100000 in
set_option maxHeartbeats 8000000 in
theorem asks_eq (s : Span) (off : Int) (w : World)  : Calls Try.prog 7 #[.agg #[.int .i64 s.lo, .int .i64 s.hi], .agg #[.int .i64 s.lo, .int .i64 s.hi], .int .i64 off] w (YesA w) := by
  have ho : order s s = 0 := by rw [order_eq]; rw [if_neg (by omega), if_pos ⟨rfl, rfl⟩]
  have KN := Lib.hid known_c
  have T1 := Lib.hid ((Blk.new w 23 #[.int .i64 s.lo, .int .i64 s.hi]).alloc (.cells #[.int .i64 s.lo, .int .i64 s.hi] 23))
  have T2 : Hid (Blk ((w.alloc (.cells #[.int .i64 s.lo, .int .i64 s.hi] 23)).alloc (.cells #[.int .i64 s.lo, .int .i64 s.hi] 23)) (w.heap.size + 1) 23 #[.int .i64 s.lo, .int .i64 s.hi]) := Lib.hid (by
    have := Blk.new (w.alloc (.cells #[.int .i64 s.lo, .int .i64 s.hi] 23)) 23 #[.int .i64 s.lo, .int .i64 s.hi]
    simpa using this)
  go_enter Try.func7, Try.ntmps7
  go_wp2_with fail
  refine (KN.out _).mono ?_
  rintro e w1 ⟨rfl, b1⟩
  have X := T1.out.below b1 T1.out.lt
  have Y := T2.out.below b1 T2.out.lt
  have B := Lib.hid (bn_then (bn_alloc (bn_alloc (Below.refl _ w) _) _) b1)
  clear b1 T1 T2
  have a0 : w1.cell? ⟨w.heap.size, 0, Option.none⟩ = some (.int .i64 s.lo) := X.cell 0
  have a1 : w1.cell? ⟨w.heap.size, 1, Option.none⟩ = some (.int .i64 s.hi) := X.cell 1
  have a2 : w1.cell? ⟨w.heap.size + 1, 0, Option.none⟩ = some (.int .i64 s.lo) := Y.cell 0
  have a3 : w1.cell? ⟨w.heap.size + 1, 1, Option.none⟩ = some (.int .i64 s.hi) := Y.cell 1
  have XX := Lib.hid X
  have YY := Lib.hid Y
  have HO := Lib.hid ho
  clear X Y ho
  go_upto_region 8 with fail
  have e0 : ∀ d os, (Go.Sort.grow (redrawn w1 d) os).cell? ⟨w.heap.size, 0, Option.none⟩ = some (.int .i64 s.lo) := fun d os => (XX.out.regrown d os).cell 0
  have e1 : ∀ d os, (Go.Sort.grow (redrawn w1 d) os).cell? ⟨w.heap.size, 1, Option.none⟩ = some (.int .i64 s.hi) := fun d os => (XX.out.regrown d os).cell 1
  have e2 : ∀ d os, (Go.Sort.grow (redrawn w1 d) os).cell? ⟨w.heap.size + 1, 0, Option.none⟩ = some (.int .i64 s.lo) := fun d os => (YY.out.regrown d os).cell 0
  have e3 : ∀ d os, (Go.Sort.grow (redrawn w1 d) os).cell? ⟨w.heap.size + 1, 1, Option.none⟩ = some (.int .i64 s.hi) := fun d os => (YY.out.regrown d os).cell 1
  have k1 := Lib.hid (fun d os => Calls.regrown_of (may_calls s (Go.Sort.grow (redrawn w1 d) os)))
  have k2 := Lib.hid (fun d os => Calls.regrown_of (may_ref s (Go.Sort.grow (redrawn w1 d) os)))
  have k3 := Lib.hid (fun d os => Calls.regrown_of (len_calls s (Go.Sort.grow (redrawn w1 d) os)))
  have k4 := Lib.hid (fun d os => Calls.regrown_of (len_ref s (Go.Sort.grow (redrawn w1 d) os)))
  have k5 := Lib.hid (fun d os => Calls.regrown_of (has_calls s off (Go.Sort.grow (redrawn w1 d) os)))
  have k6 := Lib.hid (fun d os => Calls.regrown_of (rhas_calls s off (Go.Sort.grow (redrawn w1 d) os)))
  have k7 := Lib.hid (fun d os => Calls.regrown_of (holds_calls s s (Go.Sort.grow (redrawn w1 d) os)))
  have k8 := Lib.hid (fun d os => Calls.regrown_of (rholds_calls s s (Go.Sort.grow (redrawn w1 d) os)))
  have k9 := Lib.hid (fun d os => Calls.regrown_of (touch_c s s (Go.Sort.grow (redrawn w1 d) os)))
  have k10 := Lib.hid (fun d os => Calls.regrown_of (rtouch_calls s s (Go.Sort.grow (redrawn w1 d) os)))
  have k11 := Lib.hid (fun d os => Calls.regrown_of (compare_calls s s (Go.Sort.grow (redrawn w1 d) os)))
  have k12 := Lib.hid (fun d os => Calls.regrown_of (known_c (Go.Sort.grow (redrawn w1 d) os)))
  rw [HO.out] at k11
  generalize decide (May s) = bm at *
  generalize len s = ls at *
  generalize has s off = bh at *
  generalize holds s s = bo at *
  generalize touch s s = bt at *
  refine wp_region_quiet_below (by kernel_rfl) (by kernel_rfl) ?_
  repeat (go_big_quiet_step (first | exact k1.out _ _ | exact k2.out _ _ | exact k3.out _ _ | exact k4.out _ _ | exact k5.out _ _ | exact k6.out _ _ | exact k7.out _ _ | exact k8.out _ _ | exact k9.out _ _ | exact k10.out _ _ | exact k11.out _ _ | exact k12.out _ _))
  refine wpQuiet_nil ?_
  rintro _ ⟨⟨nq, osq⟩, rfl⟩
  go_wp2
  go_ret
  exact ⟨by first | rfl | (apply ret_bool; simp), B.out.trans ((below_regrown w1 nq osq).mono B.out.size)⟩
theorem asks_walk (s t : Span) (off : Int) (w : World) : Calls Try.prog 7 #[.agg #[.int .i64 s.lo, .int .i64 s.hi], .agg #[.int .i64 t.lo, .int .i64 t.hi], .int .i64 off] w (YesA w) := by
  rcases Int.lt_trichotomy s.lo t.lo with h | h | h
  · exact asks_lt s t off w h
  · rcases Int.lt_trichotomy s.hi t.hi with g | g | g
    · exact asks_lt2 s t off w h g
    · exact (span_ext h g : s = t) ▸ asks_eq s off w
    · exact asks_gt2 s t off w h g
  · exact asks_gt s t off w h
end Go.Proofs.Ytfbjmaajdblbfaa.Spans
