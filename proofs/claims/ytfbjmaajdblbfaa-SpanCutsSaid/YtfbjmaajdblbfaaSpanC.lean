/- Chapter 06: what each of its functions answers, of any spans, out of the printed contracts. -/
import Derived.Test.YtfbjmaajdblbfaaBrSpanParts
import Derived.Test.YtfbjmaajdblbfaaSpanRef
namespace Go.Proofs.Ytfbjmaajdblbfaa.Spans
open Go.RowKit Go.OpenShut Go.Proofs.Ytfbjmaajdblbfaa.Aid Go.Proofs.Ytfbjmaajdblbfaa.PSpanParts Go.Proofs.Ytfbjmaajdblbfaa.BrSpanParts Go.Proofs.YtfbjmaajdblbfaaW.PrintWords
theorem touch_c (s t : Span) (w : World) : Calls Try.prog 13 #[.agg #[.int .i64 s.lo, .int .i64 s.hi], .agg #[.int .i64 t.lo, .int .i64 t.hi]] w (Gives w (.bool (touch s t))) := span_Touch.calls _ _ _ _ _ w (touch_f ..)
theorem meet_c (s t : Span) (w : World) : Calls Try.prog 15 #[.agg #[.int .i64 s.lo, .int .i64 s.hi], .agg #[.int .i64 t.lo, .int .i64 t.hi]] w (Gives w (.agg #[.int .i64 (meet s t).lo, .int .i64 (meet s t).hi])) := span_Meet.calls _ _ _ _ _ _ w (meet_f ..)
theorem known_c (w : World) : Calls Try.prog 12 #[] w (Gives w (.bool true)) := undertowlaw06_known.calls 4 true w known4
def encS (s : Span) : List Value := [.int .i64 s.lo, .int .i64 s.hi]
theorem kd_of {w : World} {A : Option Addr} {xs : List Span} (hx : xs.length ≤ 9223372036854775807) (h : Go.Proofs.Ytfbjmaajdblbfaa.Aid.Reps w A 2 encS xs) : Kd.C k23 w A (xs.map fun s => (⟨s.lo, s.hi⟩ : S23)).length (xs.map fun s => (⟨s.lo, s.hi⟩ : S23)) := by
  refine ⟨rfl, by simp; omega, fun h0 => ?_⟩
  have h0' : 0 < xs.length := by simpa using h0
  obtain ⟨ad, hA, _⟩ := h 0 _ (List.getElem?_eq_getElem h0')
  refine ⟨ad, hA, fun j p hj => ?_⟩
  rw [List.getElem?_map] at hj
  cases hx : xs[j]? with
  | none => rw [hx] at hj; cases hj
  | some s =>
    rw [hx] at hj
    obtain rfl : (⟨s.lo, s.hi⟩ : S23) = p := by simpa using hj
    obtain ⟨ad', hA', hl, hc⟩ := h j s hx
    rw [hA] at hA'
    obtain rfl : ad = ad' := by simpa using hA'
    exact ⟨encS s, rfl, k23_mk w _, hc⟩
theorem hull_c (xs : List Span) (hx : xs.length ≤ 9223372036854775807) (A : Option Addr) (c : Nat) (hc : xs.length ≤ c) (w : World) (h : Go.Proofs.Ytfbjmaajdblbfaa.Aid.Reps w A 2 encS xs) : Calls Try.prog 16 #[.slice A xs.length c] w (Gives w (.agg #[.int .i64 (hull xs).lo, .int .i64 (hull xs).hi])) := by
  have e : (xs.map fun s => (⟨s.lo, s.hi⟩ : S23)).map sp = xs := by rw [List.map_map]; exact (List.map_congr_left (fun _ _ => rfl)).trans (List.map_id xs)
  have := span_Hull.calls _ A c (xs.map fun s => (⟨s.lo, s.hi⟩ : S23)) _ _ w (kd_of hx h) (by simpa using hc) (hull_f _ (by simpa using hx))
  rw [List.length_map, e] at this
  exact this
end Go.Proofs.Ytfbjmaajdblbfaa.Spans
