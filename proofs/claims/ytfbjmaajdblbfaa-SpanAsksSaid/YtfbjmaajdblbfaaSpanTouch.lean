/- Chapter 06: the document's Has and Touch; how two stand to each other. -/
import Derived.Test.YtfbjmaajdblbfaaSpanHoldsRef
import Derived.Deep.DeepCutAuto
set_option linter.unusedSimpArgs false
set_option linter.unusedVariables false
attribute [local go_sem ↓] Go.wp_at_zero Go.wp_at_succ
namespace Go.Proofs.Ytfbjmaajdblbfaa.Spans
open Go.BigFrame Go.RowKit Go.OpenShut Go.Proofs.Ytfbjmaajdblbfaa.Aid
attribute [local go_sem] field_0 field_1
theorem rhas_calls (s : Span) (off : Int) (w : World) : Calls Try.prog 29 #[.agg #[.int .i64 s.lo, .int .i64 s.hi], .int .i64 off] w (Gives w (.bool (has s off))) := by
  have M := Lib.hid (of_ref s)
  have HT := Lib.hid (at2_new (W := w) (s := s) rfl)
  have e : has s off = (decide ((plain s).lo ≤ off) && decide (off < (plain s).hi)) := rfl
  rw [e]
  clear e
  generalize plain s = p at *
  by_cases h : p.lo ≤ off
  · go_enter Try.func29, Try.ntmps29
    go_wp2_with fail
    refine (M.out _).mono ?_
    rintro e w1 ⟨rfl, b1⟩
    obtain ⟨c0, c1⟩ := at2_call HT.out b1
    go_wp2_with fail
    refine (M.out _).mono ?_
    rintro e w2 ⟨rfl, b2⟩
    go_wp2
    go_ret
    exact ⟨by apply ret_bool; simp [h], below_then (below1 b1) (below1 b1).size b2⟩
  · go_enter Try.func29, Try.ntmps29
    go_wp2_with fail
    refine (M.out _).mono ?_
    rintro e w1 ⟨rfl, b1⟩
    go_wp2
    go_ret
    exact ⟨by apply ret_bool; rw [Bool.eq_iff_iff]; simp; omega, below1 b1⟩
/-- Two spans, each in its box, the document's a and b. -/
theorem at2_two {W : World} {p q : Span} : At2 ((W.alloc (.cells #[.int .i64 p.lo, .int .i64 p.hi] 23)).alloc (.cells #[.int .i64 q.lo, .int .i64 q.hi] 23)) W.heap.size p := at2_alloc (at2_new rfl) _
set_option maxRecDepth 100000 in
set_option maxHeartbeats 4000000 in
theorem rtouch_calls (s t : Span) (w : World) : Calls Try.prog 32 #[.agg #[.int .i64 s.lo, .int .i64 s.hi], .agg #[.int .i64 t.lo, .int .i64 t.hi]] w (Gives w (.bool (touch s t))) := by
  have e1 : plain (plain s) = plain s := plain_id (plain_plain _)
  have e2 : plain (plain t) = plain t := plain_id (plain_plain _)
  have M := Lib.hid (of_ref s)
  have N := Lib.hid (of_ref t)
  have L1 := Lib.hid (len_ref (plain s))
  have L2 := Lib.hid (len_ref (plain t))
  have MM := Lib.hid (meet_ref (plain s) (plain t))
  have em : meet (plain s) (plain t) = meet s t := by unfold meet; rw [e1, e2]
  rw [em] at MM
  have LM := Lib.hid (len_ref (meet s t))
  have HT := Lib.hid (at2_alloc (at2_new (W := w) (s := s) rfl) (.cells #[.int .i64 t.lo, .int .i64 t.hi] 23))
  have HT2 := Lib.hid (at2_new (W := w.alloc (.cells #[.int .i64 s.lo, .int .i64 s.hi] 23)) (s := t) rfl)
  have hr := touch_ref s t
  generalize touch s t = r at *
  clear e1 e2 em
  generalize meet s t = m at *
  generalize plain s = p at *
  generalize plain t = q at *
  generalize len p = lp at *
  generalize len q = lq at *
  generalize len m = lm at *
  have HR := Lib.hid hr
  clear hr
  go_enter Try.func32, Try.ntmps32
  go_wp2_with fail
  refine (M.out _).mono ?_
  rintro e w1 ⟨rfl, b1⟩
  have B1 := Lib.hid (bn_then (bn_alloc (bn_alloc (Below.refl _ w) _) _) b1)
  obtain ⟨c0, c1⟩ := at2_call HT2.out b1
  simp only [World.size_alloc] at c0 c1
  obtain ⟨d0, d1⟩ := at2_alloc (at2_call HT2.out b1) (.cells #[.int .i64 p.lo, .int .i64 p.hi] 23)
  simp only [World.size_alloc] at d0 d1
  have T5 := Lib.hid (at2_new (W := w1) (s := p) rfl)
  clear b1
  go_wp2_with fail
  refine (N.out _).mono ?_
  rintro e w2 ⟨rfl, b2⟩
  have B2 := Lib.hid (bn_then (bn_alloc B1.out _) b2)
  have T5 := Lib.hid (at2_alloc (at2_call T5.out b2) (.cells #[.int .i64 q.lo, .int .i64 q.hi] 23))
  have T6 := Lib.hid (at2_new (W := w2) (s := q) rfl)
  clear b2 c0 c1 d0 d1
  obtain ⟨c0, c1⟩ := T5.out
  go_wp2_with fail
  refine (L1.out _).mono ?_
  rintro e w3 ⟨rfl, b3⟩
  have B3 := Lib.hid (bn_then (bn_alloc B2.out _) b3)
  have U5 := Lib.hid (at2_call T5.out b3)
  have U6 := Lib.hid (at2_call T6.out b3)
  clear b3 c0 c1
  obtain ⟨c0, c1⟩ := U5.out
  obtain ⟨c2, c3⟩ := U6.out
  by_cases h1 : lp = 0
  · subst h1
    go_wp2
    go_ret
    exact ⟨by apply ret_bool; rw [HR.out]; simp, B3.out⟩
  · have h1a : (lp == 0) = false := by simpa using h1
    have h1b : decide (lp = 0) = false := by simpa using h1
    go_wp2_with fail
    refine (L2.out _).mono ?_
    rintro e w4 ⟨rfl, b4⟩
    have B4 := Lib.hid (bn_then B3.out b4)
    have V5 := Lib.hid (at2_call U5.out b4)
    have V6 := Lib.hid (at2_call U6.out b4)
    clear b4 c0 c1 c2 c3
    obtain ⟨c0, c1⟩ := V5.out
    obtain ⟨c2, c3⟩ := V6.out
    by_cases h2 : lq = 0
    · subst h2
      go_wp2
      go_ret
      exact ⟨by apply ret_bool; rw [HR.out]; simp, B4.out⟩
    · have h2a : (lq == 0) = false := by simpa using h2
      have h2b : decide (lq = 0) = false := by simpa using h2
      go_wp2_with fail
      refine (MM.out _).mono ?_
      rintro e w5 ⟨rfl, b5⟩
      have B5 := Lib.hid (bn_then B4.out b5)
      have X5 := Lib.hid (at2_call V5.out b5)
      have X6 := Lib.hid (at2_call V6.out b5)
      clear b5 c0 c1 c2 c3
      go_wp2_with fail
      refine (LM.out _).mono ?_
      rintro e w6 ⟨rfl, b6⟩
      have B6 := Lib.hid (bn_then B5.out b6)
      obtain ⟨c0, c1⟩ := at2_call X5.out b6
      obtain ⟨c2, c3⟩ := at2_call X6.out b6
      clear b6
      by_cases h3 : 0 < lm
      · go_wp2
        go_ret
        exact ⟨by apply ret_bool; rw [HR.out]; simp [h1, h2, h3], B6.out⟩
      · by_cases h4 : p.hi = q.lo
        · have h4a : (p.hi == q.lo) = true := by simpa using h4
          have H4 := Lib.hid h4
          clear h4
          go_wp2
          go_ret
          exact ⟨by apply ret_bool; rw [HR.out]; simp [h1, h2, H4.out], B6.out⟩
        · have h4a : (p.hi == q.lo) = false := by simpa using h4
          go_wp2
          go_ret
          exact ⟨by apply ret_bool; rw [HR.out]; rw [Bool.eq_iff_iff]; simp [h1, h2, h4], B6.out⟩
end Go.Proofs.Ytfbjmaajdblbfaa.Spans
