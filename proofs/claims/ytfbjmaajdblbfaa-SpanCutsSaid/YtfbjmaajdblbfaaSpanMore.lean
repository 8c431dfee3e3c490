/- Chapter 06: what is below an offset, what is from it on, whether a span has it. -/
import Derived.Test.YtfbjmaajdblbfaaSpan
namespace Go.Proofs.Ytfbjmaajdblbfaa.Spans
open Go.RowKit Go.OpenShut Go.Proofs.Ytfbjmaajdblbfaa.Aid
attribute [local go_sem] max_2 min_2 max2_i min2_i
def has (s : Span) (off : Int) : Bool := decide ((plain s).lo ≤ off) && decide (off < (plain s).hi)
theorem has_calls (s : Span) (off : Int) (w : World) : Calls Try.prog 24 #[.agg #[.int .i64 s.lo, .int .i64 s.hi], .int .i64 off] w (Gives w (.bool (has s off))) := by
  have M := Lib.hid (plain_calls s)
  have e : has s off = (decide ((plain s).lo ≤ off) && decide (off < (plain s).hi)) := rfl
  rw [e]
  clear e
  generalize (plain s).lo = a at *
  generalize (plain s).hi = b at *
  by_cases h1 : a ≤ off
  all_goals
    go_enter Try.func24, Try.ntmps24
    go_wp2_with (go_at_call 51; refine (M.out _).mono ?_; rintro e w1 ⟨rfl, hb⟩; obtain ⟨hc, hf⟩ := bcell hb; have hz : w.heap.size < w1.heap.size := by have := hb.size; simp at this; omega)
    go_ret
    refine ⟨?_, ((below1 hb).setCell (by simp) _).setCell (by simp) _⟩
    first | rfl | (apply ret_bool; simp [h1]; done) | (apply ret_bool; rw [Bool.eq_iff_iff]; simp; omega)
def below (s : Span) (off : Int) : Span := plain ⟨(plain s).lo, min (plain s).hi off⟩
set_option maxHeartbeats 1000000 in
theorem below_calls (s : Span) (off : Int) (w : World) : Calls Try.prog 18 #[.agg #[.int .i64 s.lo, .int .i64 s.hi], .int .i64 off] w (Gives w (.agg #[.int .i64 (below s off).lo, .int .i64 (below s off).hi])) := by
  have M := Lib.hid (plain_calls s)
  have N := Lib.hid (plain_calls ⟨(plain s).lo, min (plain s).hi off⟩)
  unfold below
  generalize plain ⟨(plain s).lo, min (plain s).hi off⟩ = q at *
  generalize (plain s).lo = a at *
  generalize (plain s).hi = b at *
  go_enter Try.func18, Try.ntmps18
  go_wp2_with fail
  refine (M.out _).mono ?_
  rintro e w1 ⟨rfl, hb⟩
  have x := ((Blk.new w 23 #[.int .i64 s.lo, .int .i64 s.hi]).alloc (.cells #[.int .i64 0, .int .i64 0] 23)).below hb (by simp; omega)
  have x0 : w1.cell? ⟨w.heap.size, 0, Option.none⟩ = some (.int .i64 s.lo) := x.cell 0
  have x1 : w1.cell? ⟨w.heap.size, 1, Option.none⟩ = some (.int .i64 s.hi) := x.cell 1
  have xf := x.frozen
  obtain ⟨hc, hf⟩ := bcell hb
  have hz : w.heap.size + 1 < w1.heap.size := by have := hb.size; simp at this; omega
  go_wp2_with fail
  refine (N.out _).mono ?_
  rintro e w2 ⟨rfl, hb2⟩
  obtain ⟨hc2, hf2⟩ := bcell hb2
  have hs : w.heap.size + 1 < ((w1.setCell ⟨w.heap.size, 0, Option.none⟩ (.int .i64 a)).setCell ⟨w.heap.size, 1, Option.none⟩ (.int .i64 b)).heap.size := by simpa using hz
  go_wp2
  refine bodyPost_ret (v := .agg #[.int .i64 q.lo, .int .i64 q.hi]) (by simp [results, Try.results18, go_sem, hc, hc2, hz]) rfl ⟨rfl, ?_⟩
  exact (((((below2 hb).setCell (by simp) _).setCell (by simp) _).trans (hb2.mono (by simp; omega))).setCell (by simp) _).setCell (by simp) _
def from_ (s : Span) (off : Int) : Span := plain ⟨max (plain s).lo off, (plain s).hi⟩
set_option maxHeartbeats 1000000 in
theorem from__calls (s : Span) (off : Int) (w : World) : Calls Try.prog 20 #[.agg #[.int .i64 s.lo, .int .i64 s.hi], .int .i64 off] w (Gives w (.agg #[.int .i64 (from_ s off).lo, .int .i64 (from_ s off).hi])) := by
  have M := Lib.hid (plain_calls s)
  have N := Lib.hid (plain_calls ⟨max (plain s).lo off, (plain s).hi⟩)
  unfold from_
  generalize plain ⟨max (plain s).lo off, (plain s).hi⟩ = q at *
  generalize (plain s).lo = a at *
  generalize (plain s).hi = b at *
  go_enter Try.func20, Try.ntmps20
  go_wp2_with fail
  refine (M.out _).mono ?_
  rintro e w1 ⟨rfl, hb⟩
  have x := ((Blk.new w 23 #[.int .i64 s.lo, .int .i64 s.hi]).alloc (.cells #[.int .i64 0, .int .i64 0] 23)).below hb (by simp; omega)
  have x0 : w1.cell? ⟨w.heap.size, 0, Option.none⟩ = some (.int .i64 s.lo) := x.cell 0
  have x1 : w1.cell? ⟨w.heap.size, 1, Option.none⟩ = some (.int .i64 s.hi) := x.cell 1
  have xf := x.frozen
  obtain ⟨hc, hf⟩ := bcell hb
  have hz : w.heap.size + 1 < w1.heap.size := by have := hb.size; simp at this; omega
  go_wp2_with fail
  refine (N.out _).mono ?_
  rintro e w2 ⟨rfl, hb2⟩
  obtain ⟨hc2, hf2⟩ := bcell hb2
  have hs : w.heap.size + 1 < ((w1.setCell ⟨w.heap.size, 0, Option.none⟩ (.int .i64 a)).setCell ⟨w.heap.size, 1, Option.none⟩ (.int .i64 b)).heap.size := by simpa using hz
  go_wp2
  refine bodyPost_ret (v := .agg #[.int .i64 q.lo, .int .i64 q.hi]) (by simp [results, Try.results20, go_sem, hc, hc2, hz]) rfl ⟨rfl, ?_⟩
  exact (((((below2 hb).setCell (by simp) _).setCell (by simp) _).trans (hb2.mono (by simp; omega))).setCell (by simp) _).setCell (by simp) _
end Go.Proofs.Ytfbjmaajdblbfaa.Spans
