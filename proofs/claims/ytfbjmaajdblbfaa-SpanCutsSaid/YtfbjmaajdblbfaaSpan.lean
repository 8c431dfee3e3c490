/- The walks of chapter 6's functions (span) and of the document's own (ref06), each by what it computes. -/
import Derived.Test.YtfbjmaajdblbfaaProg
import Derived.Test.YtfbjmaajdblbfaaAid
import Derived.WalkKit
import Derived.WalkSpells
import Derived.WalkLawsBesides
import Derived.RegionTactic
import Derived.ChangeAlike
import Derived.Deep.QuietTactic
import Derived.BigQuiet
import Derived.BigRegion
import Derived.Deep.RegionHeld3
import Derived.Deep.RegionWith
import Derived.Deep.DrawnRows
import Derived.OpenShut
import Derived.StillTailTactics
namespace Go.Proofs.Ytfbjmaajdblbfaa.Spans
open Go.RowKit Go.OpenShut Go.Proofs.Ytfbjmaajdblbfaa.Aid
attribute [local go_sem] max_2 min_2 max2_i min2_i
structure Span where
  lo : Int
  hi : Int
deriving Inhabited, DecidableEq
def val (s : Span) : Value := .agg #[.int .i64 s.lo, .int .i64 s.hi]
def May (s : Span) : Prop := 0 ≤ s.lo ∧ s.lo ≤ s.hi ∧ s.hi ≤ 4611686018427387904
instance (s : Span) : Decidable (May s) := by unfold May; infer_instance
def plain (s : Span) : Span := if May s ∧ s.lo ≠ s.hi then s else ⟨0, 0⟩
def Gives (w : World) (v : Value) (e : Ending) (w' : World) : Prop := e = .returned v ∧ Below w.heap.size w w'
theorem may_calls (s : Span) (w : World) : Calls Try.prog 27 #[.agg #[.int .i64 s.lo, .int .i64 s.hi]] w (Gives w (.bool (decide (May s)))) := by
  obtain ⟨lo, hi⟩ := s
  by_cases h1 : 0 ≤ lo
  · by_cases h2 : lo ≤ hi
    · by_cases h3 : hi ≤ 4611686018427387904
      · rw [show decide (May ⟨lo, hi⟩) = true from decide_eq_true ⟨h1, h2, h3⟩]
        go_enter Try.func27, Try.ntmps27
        go_wp2
        go_ret
        exact ⟨rfl, (Below.refl _ w).alloc (Nat.le_refl _) _⟩
      · rw [show decide (May ⟨lo, hi⟩) = false from decide_eq_false (fun h => h3 h.2.2)]
        go_enter Try.func27, Try.ntmps27
        go_wp2
        go_ret
        exact ⟨rfl, (Below.refl _ w).alloc (Nat.le_refl _) _⟩
    · rw [show decide (May ⟨lo, hi⟩) = false from decide_eq_false (fun h => h2 h.2.1)]
      go_enter Try.func27, Try.ntmps27
      go_wp2
      go_ret
      exact ⟨rfl, (Below.refl _ w).alloc (Nat.le_refl _) _⟩
  · rw [show decide (May ⟨lo, hi⟩) = false from decide_eq_false (fun h => h1 h.1)]
    go_enter Try.func27, Try.ntmps27
    go_wp2
    go_ret
    exact ⟨rfl, (Below.refl _ w).alloc (Nat.le_refl _) _⟩
theorem bcell {W w1 : World} (hb : Below W.heap.size W w1) : (∀ b o, b < W.heap.size → w1.cell? ⟨b, o, none⟩ = W.cell? ⟨b, o, none⟩) ∧ (∀ b o, b < W.heap.size → w1.frozen? ⟨b, o, none⟩ = W.frozen? ⟨b, o, none⟩) :=
  ⟨fun b o h => hb.cell (p := ⟨b, o, none⟩) h, fun b o h => hb.frozen (p := ⟨b, o, none⟩) h⟩
theorem below1 {w w1 : World} {o1 : Obj} (hb : Below (w.alloc o1).heap.size (w.alloc o1) w1) : Below w.heap.size w w1 :=
  ((Below.refl _ w).alloc (Nat.le_refl _) o1).trans (hb.mono (by simp))
theorem below2 {w w1 : World} {o1 o2 : Obj} (hb : Below ((w.alloc o1).alloc o2).heap.size ((w.alloc o1).alloc o2) w1) : Below w.heap.size w w1 :=
  below1 (below1 hb)
theorem below3 {w w1 : World} {o1 o2 o3 : Obj} (hb : Below (((w.alloc o1).alloc o2).alloc o3).heap.size (((w.alloc o1).alloc o2).alloc o3) w1) : Below w.heap.size w w1 :=
  below1 (below2 hb)
theorem plain_calls (s : Span) (w : World) : Calls Try.prog 51 #[.agg #[.int .i64 s.lo, .int .i64 s.hi]] w (Gives w (.agg #[.int .i64 (plain s).lo, .int .i64 (plain s).hi])) := by
  have M := Lib.hid (may_calls s)
  obtain ⟨lo, hi⟩ := s
  by_cases h1 : May ⟨lo, hi⟩
  · rw [show decide (May ⟨lo, hi⟩) = true from decide_eq_true h1] at M
    by_cases h2 : lo = hi
    · have e : plain ⟨lo, hi⟩ = ⟨0, 0⟩ := by rw [plain, if_neg (fun h => h.2 h2)]
      rw [e]
      have hd : (lo == hi) = true := by simpa using h2
      clear e h1 h2
      go_enter Try.func51, Try.ntmps51
      go_wp2_with (go_at_call 27; refine (M.out _).mono ?_; rintro e w1 ⟨rfl, hb⟩; obtain ⟨hc, hf⟩ := bcell hb; have hz : w.heap.size + 1 < w1.heap.size := by have := hb.size; simp at this; omega)
      refine bodyPost_ret (v := .agg #[.int .i64 0, .int .i64 0]) (by simp [results, Try.results51, go_sem, hc]) rfl ⟨rfl, ?_⟩
      exact ((below2 hb).setCell (by simp) _).setCell (by simp) _
    · have e : plain ⟨lo, hi⟩ = ⟨lo, hi⟩ := by rw [plain, if_pos ⟨h1, h2⟩]
      rw [e]
      have hd : (lo == hi) = false := by simpa using h2
      clear e h1 h2
      go_enter Try.func51, Try.ntmps51
      go_wp2_with (go_at_call 27; refine (M.out _).mono ?_; rintro e w1 ⟨rfl, hb⟩; obtain ⟨hc, hf⟩ := bcell hb; have hz : w.heap.size + 1 < w1.heap.size := by have := hb.size; simp at this; omega)
      refine bodyPost_ret (v := .agg #[.int .i64 lo, .int .i64 hi]) (by simp [results, Try.results51, go_sem, hc]) rfl ⟨rfl, ?_⟩
      exact ((below2 hb).setCell (by simp) _).setCell (by simp) _
  · rw [show decide (May ⟨lo, hi⟩) = false from decide_eq_false h1] at M
    have e : plain ⟨lo, hi⟩ = ⟨0, 0⟩ := by rw [plain, if_neg (fun h => h1 h.1)]
    rw [e]
    clear e h1
    go_enter Try.func51, Try.ntmps51
    go_wp2_with (go_at_call 27; refine (M.out _).mono ?_; rintro e w1 ⟨rfl, hb⟩; obtain ⟨hc, hf⟩ := bcell hb; have hz : w.heap.size + 1 < w1.heap.size := by have := hb.size; simp at this; omega)
    refine bodyPost_ret (v := .agg #[.int .i64 0, .int .i64 0]) (by simp [results, Try.results51, go_sem, hc]) rfl ⟨rfl, ?_⟩
    exact ((below2 hb).setCell (by simp) _).setCell (by simp) _
theorem plain_cases (s : Span) : (plain s = ⟨0, 0⟩ ∧ ¬ (May s ∧ s.lo ≠ s.hi)) ∨ (plain s = s ∧ May s ∧ s.lo < s.hi) := by
  unfold plain
  split
  · rename_i h
    right
    refine ⟨rfl, h.1, ?_⟩
    have := h.1.2.1
    omega
  · rename_i h
    exact .inl ⟨rfl, h⟩
/-- A span that counts: the zero one, or one with offsets, within the limits. -/
def Plain (s : Span) : Prop := 0 ≤ s.lo ∧ s.lo ≤ s.hi ∧ s.hi ≤ 4611686018427387904 ∧ (s.lo = s.hi → s.lo = 0)
theorem plain_plain (s : Span) : Plain (plain s) := by
  rcases plain_cases s with ⟨e, _⟩ | ⟨e, h, h2⟩
  · rw [e]; simp [Plain]
  · rw [e]
    obtain ⟨a, b, c⟩ := h
    exact ⟨a, b, c, by omega⟩
def len (s : Span) : Int := (plain s).hi - (plain s).lo
theorem len_calls (s : Span) (w : World) : Calls Try.prog 14 #[.agg #[.int .i64 s.lo, .int .i64 s.hi]] w (Gives w (.int .i64 (len s))) := by
  have M := Lib.hid (plain_calls s)
  have hp := plain_plain s
  have e : len s = (plain s).hi - (plain s).lo := rfl
  rw [e]
  obtain ⟨h1, h2, h3, _⟩ := hp
  clear e
  generalize (plain s).lo = a at *
  generalize (plain s).hi = b at *
  go_enter Try.func14, Try.ntmps14
  go_wp2_with (go_at_call 51; refine (M.out _).mono ?_; rintro e w1 ⟨rfl, hb⟩; obtain ⟨hc, hf⟩ := bcell hb; have hz : w.heap.size < w1.heap.size := by have := hb.size; simp at this; omega)
  go_ret
  exact ⟨rfl, ((below1 hb).setCell (by simp) _).setCell (by simp) _⟩
def none (s : Span) : Bool := decide (plain s = ⟨0, 0⟩)
theorem none_calls (s : Span) (w : World) : Calls Try.prog 52 #[.agg #[.int .i64 s.lo, .int .i64 s.hi]] w (Gives w (.bool (none s))) := by
  have M := Lib.hid (plain_calls s)
  have e : none s = (decide ((plain s).lo = 0) && decide ((plain s).hi = 0)) := by
    unfold none
    rw [Bool.eq_iff_iff]
    simp
    constructor
    · intro h; rw [h]; simp
    · intro ⟨h1, h2⟩; cases hh : plain s; rw [hh] at h1 h2; simp at h1 h2; rw [h1, h2]
  rw [e]
  clear e
  generalize (plain s).lo = a at *
  generalize (plain s).hi = b at *
  go_enter Try.func52, Try.ntmps52
  go_wp2_with (go_at_call 51; refine (M.out _).mono ?_; rintro e w1 ⟨rfl, hb⟩; obtain ⟨hc, hf⟩ := bcell hb)
  all_goals
    go_ret
    refine ⟨?_, ?_⟩
    · first | rfl | exact ret_bool (by simp [*]) | exact ret_bool (by simp_all) | exact ret_bool (by simp; omega)
    · exact below1 hb
end Go.Proofs.Ytfbjmaajdblbfaa.Spans
