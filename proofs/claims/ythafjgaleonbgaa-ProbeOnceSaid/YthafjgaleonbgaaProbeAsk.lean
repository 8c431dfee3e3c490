/- What the asks of a told probe hold (chapter 16). -/
import Derived.Test.YthafjgaleonbgaaProbe
import Derived.Test.YthafjgaleonbgaaRegrown
import Derived.Handy
import Derived.Lib.QuietBelow
namespace Go.Proofs.Ythafjgaleonbgaa.Probe
open Go.BigFrame Go.RowKit Go.Proofs.Ythafjgaleonbgaa.Aid
def lenOf (f t : Int) : Int := if 0 ≤ f ∧ f ≤ t ∧ t ≤ 4611686018427387904 then t - f else 0
def span (f t : Int) : Value := .agg #[.int .i64 f, .int .i64 t]
theorem may_calls (f t : Int) (w : World) : Calls Try.prog 71 #[span f t] w fun e w' => e = .returned (.bool (decide (0 ≤ f ∧ f ≤ t ∧ t ≤ 4611686018427387904))) ∧ Below w.heap.size w w' := by
  unfold span
  have hc : f < 0 ∨ (0 ≤ f ∧ t < f) ∨ (0 ≤ f ∧ f ≤ t ∧ 4611686018427387904 < t) ∨ (0 ≤ f ∧ f ≤ t ∧ t ≤ 4611686018427387904) := by omega
  rcases hc with h1 | ⟨h1, h2⟩ | ⟨h1, h2, h3⟩ | ⟨h1, h2, h3⟩
  all_goals
    go_enter Try.func71, Try.ntmps71
    go_wp2
    go_returns
    exact ⟨ret_bool (by first | (simp; omega) | (rw [Bool.eq_iff_iff]; simp; omega)), (Below.refl _ w).alloc (Nat.le_refl _) _⟩
def plainOf (f t : Int) : Value := if 0 ≤ f ∧ f ≤ t ∧ t ≤ 4611686018427387904 ∧ f ≠ t then span f t else span 0 0
def two (w : World) (f t : Int) : World := (w.alloc (.cells #[.int .i64 f, .int .i64 t] 70)).alloc (.cells #[.int .i64 0, .int .i64 0] 70)
theorem two_facts {w w1 : World} {f t : Int} (b : Below (two w f t).heap.size (two w f t) w1) : Blk w1 w.heap.size 70 #[.int .i64 f, .int .i64 t] ∧ Blk w1 (w.heap.size + 1) 70 #[.int .i64 0, .int .i64 0] := by
  refine ⟨((Blk.new w 70 _).alloc _).below b (by simp [two]; omega), ?_⟩
  have h := (Blk.new (w.alloc (.cells #[.int .i64 f, .int .i64 t] 70)) 70 #[.int .i64 0, .int .i64 0]).below b (by simp [two])
  simpa using h
theorem two_below {w w1 : World} {f t : Int} (b : Below (two w f t).heap.size (two w f t) w1) : Below w.heap.size w w1 :=
  below_then (((Below.refl _ w).alloc (Nat.le_refl _) _).alloc (by simp) _) (by simp; omega) b
theorem below_set {B : Nat} {a w : World} (h : Below B a w) {p : Addr} (hp : B ≤ p.block) (u : Value) : Below B a (w.setCell p u) :=
  ⟨h.os, h.tape, h.output, by simpa [World.setCell] using h.size, fun i hi => (Below.heap_setCell w p u i (by omega)).trans (h.block i hi)⟩
set_option maxHeartbeats 1000000 in
theorem plain_calls (f t : Int) (w : World) : Calls Try.prog 70 #[span f t] w fun e w' => e = .returned (plainOf f t) ∧ Below w.heap.size w w' := by
  have M := Lib.hid (may_calls f t (two w f t))
  unfold plainOf
  unfold span at *
  by_cases hm : 0 ≤ f ∧ f ≤ t ∧ t ≤ 4611686018427387904
  · have hd : decide (0 ≤ f ∧ f ≤ t ∧ t ≤ 4611686018427387904) = true := by simpa using hm
    rw [hd] at M
    clear hd
    by_cases he : f = t
    · subst he
      rw [if_neg (by omega)]
      clear hm
      go_enter Try.func70, Try.ntmps70
      go_wp2_with fail
      refine M.out.mono ?_
      rintro e w1 ⟨rfl, b1⟩
      obtain ⟨x1, x2⟩ := two_facts b1
      have x10 := x1.cell 0
      have x11 := x1.cell 1
      have x20 := x2.cell 0
      have x21 := x2.cell 1
      have xf := x2.frozen
      have hlt := x2.lt
      have B1 := Lib.hid (two_below b1)
      have X2 := Lib.hid x2
      clear x1 x2 b1 M
      go_wp2
      obtain ⟨wF, hwF⟩ : ∃ wF, wF = (w1.setCell ⟨w.heap.size + 1, 0, none⟩ (.int .i64 0)).setCell ⟨w.heap.size + 1, 1, none⟩ (.int .i64 0) := ⟨_, rfl⟩
      have Y : Blk wF (w.heap.size + 1) 70 #[.int .i64 0, .int .i64 0] := by rw [hwF]; exact ((X2.out.set_ 0 _).set_ 1 _).eq rfl
      have BF : Below w.heap.size w wF := by rw [hwF]; exact below_set (below_set B1.out (by exact Nat.le_succ _) _) (by exact Nat.le_succ _) _
      rw [← hwF]
      clear hwF x10 x11 x20 x21 xf
      have y0 : wF.cell? ⟨w.heap.size + 1, 0, none⟩ = some (.int .i64 0) := Y.cell 0
      have y1 : wF.cell? ⟨w.heap.size + 1, 1, none⟩ = some (.int .i64 0) := Y.cell 1
      (try simp only [Exit.inBlock, Exit.then])
      refine bodyPost_ret (v := .agg #[.int .i64 0, .int .i64 0]) (by simp [results, Try.results70, go_sem, y0, y1]; done) rfl ?_
      exact ⟨rfl, BF⟩
    · rw [if_pos (by omega)]
      clear hm
      go_enter Try.func70, Try.ntmps70
      go_wp2_with fail
      refine M.out.mono ?_
      rintro e w1 ⟨rfl, b1⟩
      obtain ⟨x1, x2⟩ := two_facts b1
      have x10 := x1.cell 0
      have x11 := x1.cell 1
      have x20 := x2.cell 0
      have x21 := x2.cell 1
      have xf := x2.frozen
      have hlt := x2.lt
      have B1 := Lib.hid (two_below b1)
      have X2 := Lib.hid x2
      clear x1 x2 b1 M
      go_wp2
      obtain ⟨wF, hwF⟩ : ∃ wF, wF = (w1.setCell ⟨w.heap.size + 1, 0, none⟩ (.int .i64 f)).setCell ⟨w.heap.size + 1, 1, none⟩ (.int .i64 t) := ⟨_, rfl⟩
      have Y : Blk wF (w.heap.size + 1) 70 #[.int .i64 f, .int .i64 t] := by rw [hwF]; exact ((X2.out.set_ 0 _).set_ 1 _).eq rfl
      have BF : Below w.heap.size w wF := by rw [hwF]; exact below_set (below_set B1.out (by exact Nat.le_succ _) _) (by exact Nat.le_succ _) _
      rw [← hwF]
      clear hwF x10 x11 x20 x21 xf
      have y0 : wF.cell? ⟨w.heap.size + 1, 0, none⟩ = some (.int .i64 f) := Y.cell 0
      have y1 : wF.cell? ⟨w.heap.size + 1, 1, none⟩ = some (.int .i64 t) := Y.cell 1
      (try simp only [Exit.inBlock, Exit.then])
      refine bodyPost_ret (v := .agg #[.int .i64 f, .int .i64 t]) (by simp [results, Try.results70, go_sem, y0, y1]; done) rfl ?_
      exact ⟨rfl, BF⟩
  · have hd : decide (0 ≤ f ∧ f ≤ t ∧ t ≤ 4611686018427387904) = false := by simpa using hm
    rw [hd] at M
    clear hd
    rw [if_neg (by omega)]
    clear hm
    go_enter Try.func70, Try.ntmps70
    go_wp2_with fail
    refine M.out.mono ?_
    rintro e w1 ⟨rfl, b1⟩
    obtain ⟨x1, x2⟩ := two_facts b1
    have x10 := x1.cell 0
    have x11 := x1.cell 1
    have x20 := x2.cell 0
    have x21 := x2.cell 1
    have xf := x2.frozen
    have hlt := x2.lt
    have B1 := Lib.hid (two_below b1)
    have X2 := Lib.hid x2
    clear x1 x2 b1 M
    go_wp2
    obtain ⟨wF, hwF⟩ : ∃ wF, wF = (w1.setCell ⟨w.heap.size + 1, 0, none⟩ (.int .i64 0)).setCell ⟨w.heap.size + 1, 1, none⟩ (.int .i64 0) := ⟨_, rfl⟩
    have Y : Blk wF (w.heap.size + 1) 70 #[.int .i64 0, .int .i64 0] := by rw [hwF]; exact ((X2.out.set_ 0 _).set_ 1 _).eq rfl
    have BF : Below w.heap.size w wF := by rw [hwF]; exact below_set (below_set B1.out (by exact Nat.le_succ _) _) (by exact Nat.le_succ _) _
    rw [← hwF]
    clear hwF x10 x11 x20 x21 xf
    have y0 : wF.cell? ⟨w.heap.size + 1, 0, none⟩ = some (.int .i64 0) := Y.cell 0
    have y1 : wF.cell? ⟨w.heap.size + 1, 1, none⟩ = some (.int .i64 0) := Y.cell 1
    (try simp only [Exit.inBlock, Exit.then])
    refine bodyPost_ret (v := .agg #[.int .i64 0, .int .i64 0]) (by simp [results, Try.results70, go_sem, y0, y1]; done) rfl ?_
    exact ⟨rfl, BF⟩
set_option maxHeartbeats 1000000 in
theorem len_calls (f t : Int) (w : World) (hf0 : -9223372036854775808 ≤ f ∧ f ≤ 9223372036854775807) (ht0 : -9223372036854775808 ≤ t ∧ t ≤ 9223372036854775807) : Calls Try.prog 62 #[span f t] w fun e w' => e = .returned (.int .i64 (lenOf f t)) ∧ Below w.heap.size w w' := by
  have M := Lib.hid (plain_calls f t (w.alloc (.cells #[.int .i64 f, .int .i64 t] 70)))
  unfold plainOf at M
  unfold span at *
  by_cases hm : 0 ≤ f ∧ f ≤ t ∧ t ≤ 4611686018427387904 ∧ f ≠ t
  · rw [if_pos hm] at M
    rw [lenOf, if_pos (by omega)]
    go_enter Try.func62, Try.ntmps62
    go_wp2_with fail
    refine M.out.mono ?_
    rintro e w1 ⟨rfl, b1⟩
    have x := (Blk.new w 70 #[.int .i64 f, .int .i64 t]).below b1 (by simp)
    have x0 : w1.cell? ⟨w.heap.size, 0, none⟩ = some (.int .i64 f) := x.cell 0
    have x1 : w1.cell? ⟨w.heap.size, 1, none⟩ = some (.int .i64 t) := x.cell 1
    have xf := x.frozen
    have hlt := x.lt
    have B1 := Lib.hid (below_then ((Below.refl _ w).alloc (Nat.le_refl _) (.cells #[.int .i64 f, .int .i64 t] 70)) (by simp) b1)
    clear x b1 M
    go_wp2
    go_ret
    exact ⟨rfl, below_set (below_set B1.out (Nat.le_refl _) _) (Nat.le_refl _) _⟩
  · rw [if_neg hm] at M
    rw [show lenOf f t = 0 from by unfold lenOf; split <;> omega]
    clear hm
    go_enter Try.func62, Try.ntmps62
    go_wp2_with fail
    refine M.out.mono ?_
    rintro e w1 ⟨rfl, b1⟩
    have x := (Blk.new w 70 #[.int .i64 f, .int .i64 t]).below b1 (by simp)
    have x0 : w1.cell? ⟨w.heap.size, 0, none⟩ = some (.int .i64 f) := x.cell 0
    have x1 : w1.cell? ⟨w.heap.size, 1, none⟩ = some (.int .i64 t) := x.cell 1
    have xf := x.frozen
    have hlt := x.lt
    have B1 := Lib.hid (below_then ((Below.refl _ w).alloc (Nat.le_refl _) (.cells #[.int .i64 f, .int .i64 t] 70)) (by simp) b1)
    clear x b1 M
    go_wp2
    go_ret
    exact ⟨rfl, below_set (below_set B1.out (Nat.le_refl _) _) (Nat.le_refl _) _⟩
/-- What lies where an ask looks. -/
structure Asks (w : World) (g b5 b6 b7 b8 b9 : Nat) (s : Pr) (ack : Int) (isDup : Bool) (f t : Int) (bare : Bool) : Prop where
  pr : IsPr w g s
  p5 : Blk w b5 74 #[.pointer (some ⟨g, 0, none⟩)]
  p6 : Blk w b6 3 #[.int .i64 ack]
  p7 : Blk w b7 4 #[.bool isDup]
  p8 : Blk w b8 70 #[.int .i64 f, .int .i64 t]
  p9 : Blk w b9 4 #[.bool bare]
theorem Asks.below {w w' : World} {g b5 b6 b7 b8 b9 : Nat} {s : Pr} {ack : Int} {isDup : Bool} {f t : Int} {bare : Bool} (h : Asks w g b5 b6 b7 b8 b9 s ack isDup f t bare) (hb : Below w.heap.size w w') : Asks w' g b5 b6 b7 b8 b9 s ack isDup f t bare :=
  ⟨h.pr.below hb h.pr.lt, h.p5.below hb h.p5.lt, h.p6.below hb h.p6.lt, h.p7.below hb h.p7.lt, h.p8.below hb h.p8.lt, h.p9.below hb h.p9.lt⟩
section
variable {g b5 b6 b7 b8 b9 : Nat} {s : Pr} {ack : Int} {isDup : Bool} {f t : Int} {bare : Bool} (w : World)
theorem ask3 (h : Asks w g b5 b6 b7 b8 b9 s ack isDup f t bare) : Calls Try.prog 64 #[.pointer (some ⟨b5, 0, none⟩)] w fun e w' => e = .returned (.bool (!s.again)) ∧ Below w.heap.size w w' := by
  obtain ⟨_, c0, c1, c2⟩ := facts h.pr
  have d5 : w.cell? ⟨b5, 0, none⟩ = some (.pointer (some ⟨g, 0, none⟩)) := h.p5.cell 0
  clear h
  go_enter Try.func64, Try.ntmps64
  go_wp2
  go_ret
  exact ⟨rfl, Below.refl _ _⟩
theorem ask5 (h : Asks w g b5 b6 b7 b8 b9 s ack isDup f t bare) : Calls Try.prog 66 #[.pointer (some ⟨b9, 0, none⟩)] w fun e w' => e = .returned (.bool bare) ∧ Below w.heap.size w w' := by
  have d9 : w.cell? ⟨b9, 0, none⟩ = some (.bool bare) := h.p9.cell 0
  clear h
  go_enter Try.func66, Try.ntmps66
  go_wp2
  go_ret
  exact ⟨rfl, Below.refl _ _⟩
theorem ask2 (h : Asks w g b5 b6 b7 b8 b9 s ack isDup f t bare) : Calls Try.prog 63 #[.pointer (some ⟨b6, 0, none⟩), .pointer (some ⟨b5, 0, none⟩)] w fun e w' => e = .returned (.bool (decide (ack < s.end_))) ∧ Below w.heap.size w w' := by
  obtain ⟨_, c0, c1, c2⟩ := facts h.pr
  have d5 : w.cell? ⟨b5, 0, none⟩ = some (.pointer (some ⟨g, 0, none⟩)) := h.p5.cell 0
  have d6 : w.cell? ⟨b6, 0, none⟩ = some (.int .i64 ack) := h.p6.cell 0
  clear h
  go_enter Try.func63, Try.ntmps63
  go_wp2
  go_quiet (fail)
  go_wp2
  go_ret
  exact ⟨rfl, below_drewN (Below.refl _ _) _⟩
theorem ask4 (h : Asks w g b5 b6 b7 b8 b9 s ack isDup f t bare) : Calls Try.prog 65 #[.pointer (some ⟨b6, 0, none⟩), .pointer (some ⟨b5, 0, none⟩)] w fun e w' => e = .returned (.bool (decide (s.end_ < ack))) ∧ Below w.heap.size w w' := by
  obtain ⟨_, c0, c1, c2⟩ := facts h.pr
  have d5 : w.cell? ⟨b5, 0, none⟩ = some (.pointer (some ⟨g, 0, none⟩)) := h.p5.cell 0
  have d6 : w.cell? ⟨b6, 0, none⟩ = some (.int .i64 ack) := h.p6.cell 0
  clear h
  go_enter Try.func65, Try.ntmps65
  go_wp2
  go_quiet (fail)
  go_wp2
  go_ret
  exact ⟨rfl, below_drewN (Below.refl _ _) _⟩
/-- The first: the segment that was sent once more came twice. -/
def twice (s : Pr) (isDup : Bool) (f t : Int) : Bool := s.again && isDup && decide (0 < lenOf f t) && decide (t = s.end_)
set_option maxHeartbeats 2000000 in
theorem ask1 (hf0 : -9223372036854775808 ≤ f ∧ f ≤ 9223372036854775807) (ht0 : -9223372036854775808 ≤ t ∧ t ≤ 9223372036854775807) (h : Asks w g b5 b6 b7 b8 b9 s ack isDup f t bare) :
    Calls Try.prog 61 #[.pointer (some ⟨b5, 0, none⟩), .pointer (some ⟨b7, 0, none⟩), .pointer (some ⟨b8, 0, none⟩)] w fun e w' => e = .returned (.bool (twice s isDup f t)) ∧ Below w.heap.size w w' := by
  obtain ⟨on, again, end_⟩ := s
  have c1 : ∀ d os, (Go.Sort.grow (redrawn w d) os).cell? ⟨g, 1, none⟩ = some (.bool again) := fun d os => (Blk.regrown h.pr d os).cell 1
  have c2 : ∀ d os, (Go.Sort.grow (redrawn w d) os).cell? ⟨g, 2, none⟩ = some (.int .i64 end_) := fun d os => (Blk.regrown h.pr d os).cell 2
  have d5 : ∀ d os, (Go.Sort.grow (redrawn w d) os).cell? ⟨b5, 0, none⟩ = some (.pointer (some ⟨g, 0, none⟩)) := fun d os => (Blk.regrown h.p5 d os).cell 0
  have d7 : ∀ d os, (Go.Sort.grow (redrawn w d) os).cell? ⟨b7, 0, none⟩ = some (.bool isDup) := fun d os => (Blk.regrown h.p7 d os).cell 0
  have d8 : ∀ d os, (Go.Sort.grow (redrawn w d) os).cell? ⟨b8, 0, none⟩ = some (.int .i64 f) := fun d os => (Blk.regrown h.p8 d os).cell 0
  have d81 : ∀ d os, (Go.Sort.grow (redrawn w d) os).cell? ⟨b8, 1, none⟩ = some (.int .i64 t) := fun d os => (Blk.regrown h.p8 d os).cell 1
  have k1 := Lib.hid (fun d os => Calls.regrown_of (len_calls f t (Go.Sort.grow (redrawn w d) os) hf0 ht0))
  unfold twice
  unfold span at k1
  simp only
  generalize lenOf f t = n at *
  clear h
  cases again with
  | false =>
    go_enter Try.func61, Try.ntmps61
    go_wp2_with fail
    refine wp_region_quiet_below (by kernel_rfl) (by kernel_rfl) ?_
    repeat (go_big_quiet_step (exact k1.out _ _))
    refine wpQuiet_nil ?_
    rintro _ ⟨⟨nq, osq⟩, rfl⟩
    go_wp2
    go_ret
    exact ⟨rfl, below_regrown w nq osq⟩
  | true =>
    cases isDup with
    | false =>
      go_enter Try.func61, Try.ntmps61
      go_wp2_with fail
      refine wp_region_quiet_below (by kernel_rfl) (by kernel_rfl) ?_
      repeat (go_big_quiet_step (exact k1.out _ _))
      refine wpQuiet_nil ?_
      rintro _ ⟨⟨nq, osq⟩, rfl⟩
      go_wp2
      go_ret
      exact ⟨rfl, below_regrown w nq osq⟩
    | true =>
      by_cases hn : 0 < n
      · have hd : decide (0 < n) = true := by simpa using hn
        rw [hd]
        go_enter Try.func61, Try.ntmps61
        go_wp2_with fail
        refine wp_region_quiet_below (by kernel_rfl) (by kernel_rfl) ?_
        repeat (go_big_quiet_step (exact k1.out _ _))
        refine wpQuiet_nil ?_
        rintro _ ⟨⟨nq, osq⟩, rfl⟩
        go_wp2
        go_ret
        exact ⟨ret_bool (by rw [Bool.eq_iff_iff]; simp), below_regrown w nq osq⟩
      · have hd : decide (0 < n) = false := by simpa using hn
        rw [hd]
        go_enter Try.func61, Try.ntmps61
        go_wp2_with fail
        refine wp_region_quiet_below (by kernel_rfl) (by kernel_rfl) ?_
        repeat (go_big_quiet_step (exact k1.out _ _))
        refine wpQuiet_nil ?_
        rintro _ ⟨⟨nq, osq⟩, rfl⟩
        go_wp2
        go_ret
        exact ⟨rfl, below_regrown w nq osq⟩
end
end Go.Proofs.Ythafjgaleonbgaa.Probe
