/- SpanTouches, the plain part: of any two spans that touch the hull has as many offsets as both, less those in common. -/
import Derived.Test.YtfbjmaajdblbfaaPSpanTouchesx4
namespace Go.Proofs.Ytfbjmaajdblbfaa.Touches
open Go.RowKit Go.Proofs.Ytfbjmaajdblbfaa.PSpanTouches Go.Proofs.YtfbjmaajdblbfaaW.PrintWords Go.Proofs.YtfbjmaajdblbfaaW.PrintLast Go.Proofs.YtfbjmaajdblbfaaW.PrintMore
theorem w64 {x : Int} (h : -9223372036854775808 ≤ x ∧ x ≤ 9223372036854775807) : wrap64 x = x := by unfold wrap64; omega
def pp (a b : Int) : Prop := 0 ≤ a ∧ a < b ∧ b ≤ 4611686018427387904
instance (a b : Int) : Decidable (pp a b) := by unfold pp; infer_instance
theorem mx_max (a b : Int) : mx a b = max a b := by unfold mx; split <;> omega
theorem mn_min (a b : Int) : mn a b = min a b := by unfold mn; split <;> omega
theorem plain_pos {a b : Int} (h : pp a b) : span_plain.f a b = some (a, b) := by
  obtain ⟨h1, h2, h3⟩ := h
  unfold span_plain.f span_May.f
  rw [if_pos (by omega), if_pos (by omega)]
  simp only [Option.bind_some, decide_eq_true_eq]
  rw [if_pos h3, if_neg (by omega)]
theorem plain_neg {a b : Int} (h : ¬ pp a b) : span_plain.f a b = some (0, 0) := by
  unfold pp at h
  unfold span_plain.f span_May.f
  by_cases h1 : a ≥ 0
  · rw [if_pos h1]
    by_cases h2 : a ≤ b
    · rw [if_pos h2]
      simp only [Option.bind_some, decide_eq_true_eq]
      by_cases h3 : b ≤ 4611686018427387904
      · rw [if_pos h3, if_pos (by omega)]
      · rw [if_neg h3]
    · rw [if_neg h2]; simp
  · rw [if_neg h1]; simp
theorem none_pos {a b : Int} (h : pp a b) : span_none.f a b = some false := by
  unfold span_none.f
  rw [plain_pos h]
  obtain ⟨h1, h2, h3⟩ := h
  simp
  omega
theorem none_neg {a b : Int} (h : ¬ pp a b) : span_none.f a b = some true := by
  unfold span_none.f
  rw [plain_neg h]
  simp
theorem not_zero : ¬ pp 0 0 := by unfold pp; omega
theorem len_pos {a b : Int} (h : pp a b) : span_Len.f a b = some (b - a) := by
  unfold span_Len.f
  rw [plain_pos h]
  obtain ⟨h1, h2, h3⟩ := h
  simp only [Option.bind_some]
  rw [w64 (by omega)]
theorem len_neg {a b : Int} (h : ¬ pp a b) : span_Len.f a b = some 0 := by
  unfold span_Len.f
  rw [plain_neg h]
  simp only [Option.bind_some]
  rw [w64 (by omega)]
  rfl
theorem meet_pos {a b c d : Int} (h : pp a b) (k : pp c d) : span_Meet.f a b c d = if pp (mx a c) (mn b d) then some (mx a c, mn b d) else some (0, 0) := by
  unfold span_Meet.f
  rw [plain_pos h, plain_pos k]
  simp only [Option.bind_some]
  split
  · rename_i q; rw [plain_pos q]; rfl
  · rename_i q; rw [plain_neg q]; rfl
theorem meet_neg {a b c d : Int} (h : ¬ (pp a b ∧ pp c d)) : span_Meet.f a b c d = some (0, 0) := by
  unfold span_Meet.f
  by_cases h1 : pp a b
  · have h2 : ¬ pp c d := fun k => h ⟨h1, k⟩
    rw [plain_pos h1, plain_neg h2]
    simp only [Option.bind_some]
    rw [plain_neg (by rw [mx_max, mn_min]; unfold pp at *; omega)]; rfl
  · rw [plain_neg h1]
    simp only [Option.bind_some]
    by_cases h2 : pp c d
    · rw [plain_pos h2]
      simp only [Option.bind_some]
      rw [plain_neg (by rw [mx_max, mn_min]; unfold pp at *; omega)]; rfl
    · rw [plain_neg h2]
      simp only [Option.bind_some]
      rw [plain_neg (by rw [mx_max, mn_min]; unfold pp at *; omega)]; rfl
theorem touch_pos {a b c d : Int} (h : pp a b) (k : pp c d) : span_Touch.f a b c d = some (decide (a ≤ d ∧ c ≤ b)) := by
  unfold span_Touch.f
  rw [plain_pos h, plain_pos k]
  simp only [Option.bind_some]
  rw [none_pos h, none_pos k]
  simp only [Option.bind_some]
  by_cases h1 : a ≤ d
  · simp [h1]
  · simp [h1]
theorem touch_neg {a b c d : Int} (h : ¬ (pp a b ∧ pp c d)) : span_Touch.f a b c d = some false := by
  unfold span_Touch.f
  by_cases h1 : pp a b
  · have h2 : ¬ pp c d := fun k => h ⟨h1, k⟩
    rw [plain_pos h1, plain_neg h2]
    simp only [Option.bind_some]
    rw [none_pos h1, none_neg not_zero]
    simp
  · rw [plain_neg h1]
    simp only [Option.bind_some]
    rw [none_neg not_zero]
    cases h2 : span_plain.f c d with
    | none => exfalso; by_cases h3 : pp c d
              · rw [plain_pos h3] at h2; cases h2
              · rw [plain_neg h3] at h2; cases h2
    | some x => simp
theorem hull_pos {a b c d : Int} (h : pp a b) (k : pp c d) : span_Hull.f 4 [⟨a, b⟩, ⟨c, d⟩] = some (mn a c, mx b d) := by
  unfold span_Hull.f
  simp [span_Hull.l0, rd_T23, none_pos h, none_pos k, none_neg not_zero, w64]
theorem known4 : undertowlaw06_known.f 4 = some true := by decide +kernel
theorem law (a b c d : Int) : undertowlaw06_SpanTouches.f 4 a b c d = some true := by
  unfold undertowlaw06_SpanTouches.f
  rw [known4]
  simp only [Option.bind_some, if_true]
  by_cases h : pp a b ∧ pp c d
  · obtain ⟨h1, h2⟩ := h
    rw [touch_pos h1 h2]
    simp only [Option.bind_some, decide_eq_true_eq]
    by_cases ht : a ≤ d ∧ c ≤ b
    · rw [if_pos ht, hull_pos h1 h2]
      simp only [Option.bind_some]
      rw [len_pos (show pp (mn a c) (mx b d) by rw [mx_max, mn_min]; unfold pp at *; omega), len_pos h1, len_pos h2, meet_pos h1 h2]
      by_cases hm : pp (mx a c) (mn b d)
      · rw [if_pos hm]
        simp only [Option.bind_some]
        rw [len_pos hm]
        simp only [Option.bind_some]
        rw [if_pos (by obtain ⟨t1, t2⟩ := ht; simp only [mx_max, mn_min] at *; unfold pp at *; exact congrArg wrap64 (by omega)), touch_pos h2 h1]
        simp only [Option.bind_some, decide_eq_true_eq]
        rw [if_pos ⟨ht.2, ht.1⟩]
      · rw [if_neg hm]
        simp only [Option.bind_some]
        rw [len_neg not_zero]
        simp only [Option.bind_some]
        rw [if_pos (by obtain ⟨t1, t2⟩ := ht; simp only [mx_max, mn_min] at *; unfold pp at *; exact congrArg wrap64 (by omega)), touch_pos h2 h1]
        simp only [Option.bind_some, decide_eq_true_eq]
        rw [if_pos ⟨ht.2, ht.1⟩]
    · rw [if_neg ht, meet_pos h1 h2, if_neg (show ¬ pp (mx a c) (mn b d) by rw [mx_max, mn_min]; unfold pp at *; omega)]
      simp only [Option.bind_some]
      rw [len_neg not_zero]
      simp
  · rw [touch_neg h, meet_neg h]
    simp only [Option.bind_some]
    rw [len_neg not_zero]
    simp
theorem walk (a b c d : Int) (w : World) : Calls Try.prog 3 #[.agg #[.int .i64 a, .int .i64 b], .agg #[.int .i64 c, .int .i64 d]] w fun e w' => e = .returned (.bool true) ∧ Below w.heap.size w w' :=
  undertowlaw06_SpanTouches.calls 4 a b c d true w (law a b c d)
end Go.Proofs.Ytfbjmaajdblbfaa.Touches
