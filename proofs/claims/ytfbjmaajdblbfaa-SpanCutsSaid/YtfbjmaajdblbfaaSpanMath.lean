/- Chapter 06, plain: what two spans have in common, the least that holds all, what is below and above, by Lean's own functions. No program in it. -/
import Derived.Test.YtfbjmaajdblbfaaSpanMore
namespace Go.Proofs.Ytfbjmaajdblbfaa.Spans
open Go.RowKit
theorem span_ext {a b : Span} (h1 : a.lo = b.lo) (h2 : a.hi = b.hi) : a = b := by cases a; cases b; simp_all
theorem plain_spec (s : Span) : (0 ≤ s.lo ∧ s.lo < s.hi ∧ s.hi ≤ 4611686018427387904 ∧ (plain s).lo = s.lo ∧ (plain s).hi = s.hi) ∨ ((s.lo < 0 ∨ s.hi ≤ s.lo ∨ 4611686018427387904 < s.hi) ∧ (plain s).lo = 0 ∧ (plain s).hi = 0) := by
  unfold plain
  split
  · rename_i h
    obtain ⟨⟨a, b, c⟩, d⟩ := h
    exact .inl ⟨a, by omega, c, rfl, rfl⟩
  · rename_i h
    refine .inr ⟨?_, rfl, rfl⟩
    unfold May at h
    omega
def meet (s t : Span) : Span := plain ⟨max (plain s).lo (plain t).lo, min (plain s).hi (plain t).hi⟩
def holds (s t : Span) : Bool := none t || (decide ((plain s).lo ≤ (plain t).lo) && decide ((plain t).hi ≤ (plain s).hi))
def touch (s t : Span) : Bool := !none s && !none t && decide ((plain s).lo ≤ (plain t).hi) && decide ((plain t).lo ≤ (plain s).hi)
/-- One step of the hull. -/
def hull1 (o s : Span) : Span := if none s then o else if none o then s else ⟨min o.lo s.lo, max o.hi s.hi⟩
def hull (l : List Span) : Span := l.foldl hull1 ⟨0, 0⟩
theorem none_iff (s : Span) : none s = true ↔ (plain s).lo = 0 ∧ (plain s).hi = 0 := by
  unfold none
  rw [decide_eq_true_iff]
  exact ⟨fun h => by rw [h]; exact ⟨rfl, rfl⟩, fun h => span_ext h.1 h.2⟩
theorem none_false (s : Span) (h : none s = false) : 0 ≤ s.lo ∧ s.lo < s.hi ∧ s.hi ≤ 4611686018427387904 ∧ plain s = s := by
  rcases plain_spec s with ⟨a, b, c, d, e⟩ | ⟨a, b, c⟩
  · exact ⟨a, b, c, span_ext d e⟩
  · rw [(none_iff s).2 ⟨b, c⟩] at h; cases h
theorem none_true (s : Span) (h : none s = true) : plain s = ⟨0, 0⟩ := by
  obtain ⟨a, b⟩ := (none_iff s).1 h
  exact span_ext a b
theorem len_zero (s : Span) : len s = 0 ↔ none s = true := by
  rw [none_iff]
  unfold len
  rcases plain_spec s with ⟨a, b, c, d, e⟩ | ⟨a, b, c⟩ <;> omega
theorem len_bd (s : Span) : 0 ≤ len s ∧ len s ≤ 4611686018427387904 := by
  unfold len
  rcases plain_spec s with ⟨a, b, c, d, e⟩ | ⟨a, b, c⟩ <;> omega
theorem plain_id {s : Span} (h : Plain s) : plain s = s := by
  obtain ⟨a, b, c, d⟩ := h
  rcases plain_spec s with ⟨_, _, _, e, f⟩ | ⟨e, f, g⟩
  · exact span_ext e f
  · exact span_ext (by omega) (by omega)
theorem hull1_plain {o s : Span} (h : Plain o) : Plain (hull1 o s) := by
  unfold hull1
  split
  · exact h
  · rename_i hs
    obtain ⟨a, b, c, _⟩ := none_false s (by simpa using hs)
    split
    · exact ⟨a, by omega, c, by omega⟩
    · rename_i ho
      obtain ⟨d, e, f, _⟩ := none_false o (by simpa using ho)
      refine ⟨?_, ?_, ?_, ?_⟩ <;> simp only <;> omega
theorem hull_snoc (l : List Span) (s : Span) : hull (l ++ [s]) = hull1 (hull l) s := by simp [hull, List.foldl_append]
theorem hull_plain (l : List Span) : Plain (hull l) := by
  unfold hull
  have : ∀ (l : List Span) (o : Span), Plain o → Plain (l.foldl hull1 o) := by
    intro l
    induction l with
    | nil => intro o h; exact h
    | cons x l ih => intro o h; exact ih _ (hull1_plain h)
  exact this l _ (by simp [Plain])
/-- The document's own words, reckoned as the code's. -/
theorem below_ref (s : Span) (off : Int) : below s off = if off < 0 then ⟨0, 0⟩ else meet s ⟨0, min off 4611686018427387904⟩ := by
  unfold below meet
  have h1 := plain_spec s
  have h2 := plain_spec ⟨0, min off 4611686018427387904⟩
  split
  · have h3 := plain_spec ⟨(plain s).lo, min (plain s).hi off⟩
    apply span_ext <;> simp only at * <;> omega
  · have h3 := plain_spec ⟨(plain s).lo, min (plain s).hi off⟩
    have h4 := plain_spec ⟨max (plain s).lo (plain ⟨0, min off 4611686018427387904⟩).lo, min (plain s).hi (plain ⟨0, min off 4611686018427387904⟩).hi⟩
    apply span_ext <;> simp only at * <;> omega
theorem from_ref (s : Span) (off : Int) : from_ s off = if 4611686018427387904 < off then ⟨0, 0⟩ else meet s ⟨max off 0, 4611686018427387904⟩ := by
  unfold from_ meet
  have h1 := plain_spec s
  have h2 := plain_spec ⟨max off 0, 4611686018427387904⟩
  split
  · have h3 := plain_spec ⟨max (plain s).lo off, (plain s).hi⟩
    apply span_ext <;> simp only at * <;> omega
  · have h3 := plain_spec ⟨max (plain s).lo off, (plain s).hi⟩
    have h4 := plain_spec ⟨max (plain s).lo (plain ⟨max off 0, 4611686018427387904⟩).lo, min (plain s).hi (plain ⟨max off 0, 4611686018427387904⟩).hi⟩
    apply span_ext <;> simp only at * <;> omega
theorem plain_meet (s t : Span) : Plain (meet s t) := plain_plain _
/-- What is below and what is from an offset on. -/
theorem parts (s : Span) (off : Int) : len (below s off) + len (from_ s off) = len s ∧ len (meet (below s off) (from_ s off)) = 0 ∧ hull [below s off, from_ s off] = plain s ∧ has (below s off) off = false ∧ (len (from_ s off) = 0 ∨ off ≤ (from_ s off).lo) := by
  have h1 := plain_spec s
  have h2 := plain_spec ⟨(plain s).lo, min (plain s).hi off⟩
  have h3 := plain_spec ⟨max (plain s).lo off, (plain s).hi⟩
  have e1 : plain (below s off) = below s off := plain_id (plain_plain _)
  have e2 : plain (from_ s off) = from_ s off := plain_id (plain_plain _)
  have l1 : (below s off).lo = (plain ⟨(plain s).lo, min (plain s).hi off⟩).lo := rfl
  have l2 : (below s off).hi = (plain ⟨(plain s).lo, min (plain s).hi off⟩).hi := rfl
  have l3 : (from_ s off).lo = (plain ⟨max (plain s).lo off, (plain s).hi⟩).lo := rfl
  have l4 : (from_ s off).hi = (plain ⟨max (plain s).lo off, (plain s).hi⟩).hi := rfl
  have p1 : Plain (below s off) := plain_plain _
  have p2 : Plain (from_ s off) := plain_plain _
  refine ⟨?_, ?_, ?_, ?_, ?_⟩
  · unfold len; rw [e1, e2]; simp only at *; omega
  · rw [len_zero, none_iff]
    have h4 := plain_spec ⟨max (plain (below s off)).lo (plain (from_ s off)).lo, min (plain (below s off)).hi (plain (from_ s off)).hi⟩
    have h5 := plain_spec (meet (below s off) (from_ s off))
    have m1 : (meet (below s off) (from_ s off)).lo = (plain ⟨max (plain (below s off)).lo (plain (from_ s off)).lo, min (plain (below s off)).hi (plain (from_ s off)).hi⟩).lo := rfl
    have m2 : (meet (below s off) (from_ s off)).hi = (plain ⟨max (plain (below s off)).lo (plain (from_ s off)).lo, min (plain (below s off)).hi (plain (from_ s off)).hi⟩).hi := rfl
    rw [e1, e2] at h4 m1 m2
    simp only at *
    omega
  · have z0 : none ⟨0, 0⟩ = true := by decide
    have n1 := none_iff (below s off)
    have n2 := none_iff (from_ s off)
    rw [e1] at n1
    rw [e2] at n2
    simp only [hull, List.foldl_cons, List.foldl_nil, hull1]
    cases hb : none (below s off) <;> cases hf : none (from_ s off) <;> rw [hb] at n1 <;> rw [hf] at n2 <;> simp only [z0, hb, if_true, Bool.false_eq_true, if_false] <;> apply span_ext <;> simp only [true_iff, Bool.false_eq_true, false_iff] at * <;> omega
  · unfold has; rw [e1]
    rw [Bool.eq_false_iff]
    simp only [ne_eq, Bool.and_eq_true, decide_eq_true_eq]
    simp only at *
    omega
  · unfold len; rw [e2]; simp only at *; omega
theorem touch_ref (s t : Span) : touch s t = if len (plain s) = 0 ∨ len (plain t) = 0 then false else (decide (0 < len (meet s t)) || decide ((plain s).hi = (plain t).lo) || decide ((plain t).hi = (plain s).lo)) := by
  have e1 : plain (plain s) = plain s := plain_id (plain_plain _)
  have e2 : plain (plain t) = plain t := plain_id (plain_plain _)
  have h1 := plain_spec s
  have h2 := plain_spec t
  have n1 := none_iff s
  have n2 := none_iff t
  have m := plain_spec ⟨max (plain s).lo (plain t).lo, min (plain s).hi (plain t).hi⟩
  have em : plain (meet s t) = meet s t := plain_id (plain_plain _)
  have m1 : (meet s t).lo = (plain ⟨max (plain s).lo (plain t).lo, min (plain s).hi (plain t).hi⟩).lo := rfl
  have m2 : (meet s t).hi = (plain ⟨max (plain s).lo (plain t).lo, min (plain s).hi (plain t).hi⟩).hi := rfl
  unfold touch len
  rw [e1, e2, em]
  cases hs : none s <;> cases ht : none t <;> rw [hs] at n1 <;> rw [ht] at n2 <;> simp only [true_iff, Bool.false_eq_true, false_iff] at n1 n2 <;> split <;> rw [Bool.eq_iff_iff] <;> simp only [Bool.not_true, Bool.not_false, Bool.true_and, Bool.false_and, Bool.and_eq_true, Bool.or_eq_true, decide_eq_true_eq, Bool.false_eq_true] at * <;> omega
theorem holds_ref (s t : Span) : holds s t = decide (meet s t = plain t) := by
  have h1 := plain_spec s
  have h2 := plain_spec t
  have n2 := none_iff t
  have m := plain_spec ⟨max (plain s).lo (plain t).lo, min (plain s).hi (plain t).hi⟩
  have m1 : (meet s t).lo = (plain ⟨max (plain s).lo (plain t).lo, min (plain s).hi (plain t).hi⟩).lo := rfl
  have m2 : (meet s t).hi = (plain ⟨max (plain s).lo (plain t).lo, min (plain s).hi (plain t).hi⟩).hi := rfl
  have key : meet s t = plain t ↔ ((meet s t).lo = (plain t).lo ∧ (meet s t).hi = (plain t).hi) := ⟨fun h => by rw [h]; exact ⟨rfl, rfl⟩, fun h => span_ext h.1 h.2⟩
  unfold holds
  rw [Bool.eq_iff_iff, decide_eq_true_iff, key]
  cases ht : none t <;> rw [ht] at n2 <;> simp only [true_iff, Bool.false_eq_true, false_iff, Bool.false_or, Bool.true_or, Bool.and_eq_true, decide_eq_true_eq] at * <;> omega
end Go.Proofs.Ytfbjmaajdblbfaa.Spans
