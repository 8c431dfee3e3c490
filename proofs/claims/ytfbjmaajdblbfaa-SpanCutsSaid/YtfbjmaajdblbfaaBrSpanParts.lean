/- The printed functions of SpanParts held against the plain ones: each answers what the plain one says. No conditions. -/
import Derived.Test.YtfbjmaajdblbfaaPSpanPartsx3
import Derived.Test.YtfbjmaajdblbfaaSpanMath
namespace Go.Proofs.Ytfbjmaajdblbfaa.BrSpanParts
open Go.RowKit Go.Proofs.Ytfbjmaajdblbfaa.Spans Go.Proofs.Ytfbjmaajdblbfaa.PSpanParts Go.Proofs.YtfbjmaajdblbfaaW.PrintWords Go.Proofs.YtfbjmaajdblbfaaW.PrintLast Go.Proofs.YtfbjmaajdblbfaaW.PrintMore
theorem w64 {x : Int} (h : -9223372036854775808 ≤ x ∧ x ≤ 9223372036854775807) : wrap64 x = x := by unfold wrap64; omega
theorem mx_max (a b : Int) : mx a b = max a b := by unfold mx; split <;> omega
theorem mn_min (a b : Int) : mn a b = min a b := by unfold mn; split <;> omega
theorem may_f (a b : Int) : span_May.f a b = some (decide (May ⟨a, b⟩)) := by
  unfold span_May.f May
  by_cases h1 : a ≥ 0
  · by_cases h2 : a ≤ b
    · simp [h1, h2]
    · simp [h1, h2]
  · simp [h1]
theorem plain_f (a b : Int) : span_plain.f a b = some ((plain ⟨a, b⟩).lo, (plain ⟨a, b⟩).hi) := by
  unfold span_plain.f plain
  rw [may_f]
  simp only [Option.bind_some, decide_eq_true_eq]
  by_cases h1 : May ⟨a, b⟩
  · by_cases h2 : a = b
    · simp [h2]
    · simp [h1, h2]
  · simp [h1]
theorem none_f (a b : Int) : span_none.f a b = some (none ⟨a, b⟩) := by
  unfold span_none.f
  rw [plain_f]
  simp only [Option.bind_some, Option.some.injEq]
  rw [Bool.eq_iff_iff, none_iff]
  simp
theorem none_plain (s : Span) : none (plain s) = none s := by
  rw [Bool.eq_iff_iff, none_iff, none_iff, plain_id (plain_plain s)]
theorem len_f (a b : Int) : span_Len.f a b = some (len ⟨a, b⟩) := by
  unfold span_Len.f
  rw [plain_f]
  simp only [Option.bind_some]
  have := len_bd ⟨a, b⟩
  rw [w64]
  · rfl
  · unfold len at this; omega
theorem meet_f (a b c d : Int) : span_Meet.f a b c d = some ((meet ⟨a, b⟩ ⟨c, d⟩).lo, (meet ⟨a, b⟩ ⟨c, d⟩).hi) := by
  unfold span_Meet.f
  rw [plain_f, plain_f]
  simp only [Option.bind_some]
  rw [plain_f, mx_max, mn_min]
  rfl
theorem touch_f (a b c d : Int) : span_Touch.f a b c d = some (touch ⟨a, b⟩ ⟨c, d⟩) := by
  unfold span_Touch.f touch
  rw [plain_f, plain_f]
  simp only [Option.bind_some]
  rw [none_f, none_f]
  simp only [Option.bind_some]
  rw [show none ⟨(plain ⟨a, b⟩).lo, (plain ⟨a, b⟩).hi⟩ = none ⟨a, b⟩ from none_plain ⟨a, b⟩, show none ⟨(plain ⟨c, d⟩).lo, (plain ⟨c, d⟩).hi⟩ = none ⟨c, d⟩ from none_plain ⟨c, d⟩]
  cases none ⟨a, b⟩ <;> cases none ⟨c, d⟩ <;> simp only [Bool.false_eq_true, if_false, if_true, Bool.not_true, Bool.not_false, Bool.true_and, Bool.false_and]
  by_cases h : (plain ⟨a, b⟩).lo ≤ (plain ⟨c, d⟩).hi
  · simp [h]
  · simp [h]
def sp (x : S23) : Span := ⟨x.f0, x.f1⟩
theorem hull_l (xs : List S23) (hx : xs.length ≤ 9223372036854775807) : ∀ (d k i : Nat) (o : Span), i + d = xs.length → d < k → span_Hull.l0 k xs (xs.length : Int) (i : Int) o.lo o.hi = some ((((xs.drop i).map sp).foldl hull1 o).lo, (((xs.drop i).map sp).foldl hull1 o).hi) := by
  intro d
  induction d with
  | zero =>
    intro k i o hi hk
    obtain ⟨k, rfl⟩ : ∃ m, k = m + 1 := ⟨k - 1, by omega⟩
    simp only [span_Hull.l0]
    rw [if_neg (by omega), List.drop_of_length_le (by omega)]
    rfl
  | succ d ih =>
    intro k i o hi hk
    obtain ⟨k, rfl⟩ : ∃ m, k = m + 1 := ⟨k - 1, by omega⟩
    have hlt : i < xs.length := by omega
    have er : rd_T23 xs (i : Int) = xs[i] := by
      unfold rd_T23
      rw [Int.toNat_natCast, List.getD_eq_getElem?_getD, List.getElem?_eq_getElem hlt]; rfl
    have ew : wrap64 ((i : Int) + 1) = ((i + 1 : Nat) : Int) := by rw [w64 (by omega)]; omega
    simp only [span_Hull.l0]
    rw [if_pos (by omega), if_pos (by omega), if_pos (by omega), er, none_f, ew, List.drop_eq_getElem_cons hlt, List.map_cons, List.foldl_cons]
    simp only [Option.bind_some]
    rw [none_f]
    simp only [Option.bind_some]
    have e1 : hull1 o (sp xs[i]) = if none ⟨xs[i].f0, xs[i].f1⟩ = true then o else if none ⟨o.lo, o.hi⟩ = true then ⟨xs[i].f0, xs[i].f1⟩ else ⟨min o.lo xs[i].f0, max o.hi xs[i].f1⟩ := rfl
    rw [e1]
    cases none ⟨xs[i].f0, xs[i].f1⟩
    · simp only [Bool.false_eq_true, if_false]
      cases none ⟨o.lo, o.hi⟩
      · simp only [Bool.false_eq_true, if_false]
        rw [mn_min, mx_max]
        exact ih k (i + 1) ⟨min o.lo xs[i].f0, max o.hi xs[i].f1⟩ (by omega) (by omega)
      · simp only [if_true]
        exact ih k (i + 1) ⟨xs[i].f0, xs[i].f1⟩ (by omega) (by omega)
    · simp only [if_true]
      exact ih k (i + 1) o (by omega) (by omega)
theorem hull_f (xs : List S23) (hx : xs.length ≤ 9223372036854775807) : span_Hull.f (xs.length + 1) xs = some ((hull (xs.map sp)).lo, (hull (xs.map sp)).hi) := by
  unfold span_Hull.f
  have := hull_l xs hx xs.length (xs.length + 1) 0 ⟨0, 0⟩ (by omega) (by omega)
  rw [List.drop_zero] at this
  exact this
theorem known4 : undertowlaw06_known.f 4 = some true := by decide +kernel
theorem rmay_f (a b : Int) : undertowref06_May.f a b = some (decide (May ⟨a, b⟩)) := by
  unfold undertowref06_May.f May
  by_cases h1 : 0 ≤ a
  · by_cases h2 : a ≤ b
    · simp [h1, h2]
    · simp [h1, h2]
  · simp [h1]
theorem rof_f (a b : Int) : undertowref06_Of.f a b = some ((plain ⟨a, b⟩).lo, (plain ⟨a, b⟩).hi) := by
  unfold undertowref06_Of.f plain
  rw [rmay_f]
  simp only [Option.bind_some, decide_eq_true_eq]
  by_cases h1 : May ⟨a, b⟩
  · by_cases h2 : a = b
    · simp [h2]
    · simp [h1, h2]
  · simp [h1]
theorem below_f (a b off : Int) : span_Below.f a b off = some ((below ⟨a, b⟩ off).lo, (below ⟨a, b⟩ off).hi) := by
  unfold span_Below.f
  rw [plain_f]
  simp only [Option.bind_some]
  rw [plain_f, mn_min]
  rfl
theorem from_f (a b off : Int) : span_From.f a b off = some ((from_ ⟨a, b⟩ off).lo, (from_ ⟨a, b⟩ off).hi) := by
  unfold span_From.f
  rw [plain_f]
  simp only [Option.bind_some]
  rw [plain_f, mx_max]
  rfl
theorem has_f (a b off : Int) : span_Has.f a b off = some (has ⟨a, b⟩ off) := by
  unfold span_Has.f has
  rw [plain_f]
  simp only [Option.bind_some]
  by_cases h : off ≥ (plain ⟨a, b⟩).lo
  · rw [if_pos h]; simp; omega
  · rw [if_neg h]; simp; omega
end Go.Proofs.Ytfbjmaajdblbfaa.BrSpanParts
