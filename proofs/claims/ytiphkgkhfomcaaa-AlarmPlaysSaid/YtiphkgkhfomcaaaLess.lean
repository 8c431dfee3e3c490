/- Chapter 13 (alarm): Less, Push, Pop. -/
import Derived.Test.YtiphkgkhfomcaaaRings
import Derived.Test.YtiphkgkhfomcaaaRegrown
import Derived.BigQuiet
import Derived.Lib.QuietBelow
import Derived.Deep.DeepCutAuto
import Derived.Deep.RegionHeld3
import Derived.Deep.DrawnRows
set_option linter.unusedSimpArgs false
set_option linter.unusedVariables false
attribute [local go_sem ↓] Go.wp_at_zero Go.wp_at_succ
namespace Go.Proofs.Ytiphkgkhfomcaaa.Alarm
open Go.BigFrame Go.RowKit Go.OpenShut Go.Proofs.Ytiphkgkhfomcaaa.Aid Go.Proofs.Ytiphkgkhfomcaaa.DMap Go.Proofs.Ytiphkgkhfomcaaa.Heap
set_option maxRecDepth 100000 in
set_option maxHeartbeats 4000000 in
theorem less_calls (R mb : Nat) (fv : Value) (m : Int → Option Value) (l : List Ring) (i j : Nat) (w : World) (h : IsRings w R mb fv m l) (hi : i < l.length) (hj : j < l.length) :
    Calls Try.prog 110 #[.pointer (some ⟨R, 0, Option.none⟩), .int .i64 i, .int .i64 j] w (Gives w (.bool (ltb (g l i) (g l j)))) := by
  obtain ⟨b, cap, rfl, hcap, hcm⟩ : ∃ b cap, fv = .slice (some ⟨b, 0, Option.none⟩) l.length cap ∧ l.length ≤ cap ∧ cap ≤ 9223372036854775807 := by
    obtain ⟨_, h0⟩ | ⟨b, cap, cur, h0, h1, h2, _⟩ := h.row
    · rw [h0] at hi; simp at hi
    · exact ⟨b, cap, h0, h1, h2⟩
  have hlen := h.len
  have c0 := h.box.cell 0
  simp at c0
  obtain ⟨i0, i1⟩ := row_cells h.row i hi
  obtain ⟨j0, j1⟩ := row_cells h.row j hj
  have hRl := h.box.lt
  have hbl := h.row.lt b rfl
  have up : ∀ (B o : Nat) (v : Value), B < w.heap.size → w.cell? ⟨B, o, Option.none⟩ = some v → ∀ (d : Nat) (os : Array Obj), (Go.Sort.grow (redrawn w d) os).cell? ⟨B, o, Option.none⟩ = some v := fun B o v hl hc d os => ((below_regrown w d os).cell (p := ⟨B, o, Option.none⟩) hl).trans hc
  have c0 := up _ _ _ hRl c0
  have i0 := up _ _ _ hbl i0
  have i1 := up _ _ _ hbl i1
  have j0 := up _ _ _ hbl j0
  have j1 := up _ _ _ hbl j1
  have q0 : (0 : Int) ≤ (i : Int) := by omega
  have q1 : (i : Int) < (l.length : Int) := by omega
  have q2 : (0 : Int) ≤ (j : Int) := by omega
  have q3 : (j : Int) < (l.length : Int) := by omega
  clear h up hRl hbl
  generalize g l i = xi at *
  generalize g l j = xj at *
  obtain ⟨ai, ni⟩ := xi
  obtain ⟨aj, nj⟩ := xj
  simp only at i0 i1 j0 j1
  have K : Hid (∀ (d : Nat) (os : Array Obj), Calls Try.prog 114 #[ringV ⟨ai, ni⟩, ringV ⟨aj, nj⟩] (Go.Sort.grow (redrawn w d) os) fun e w'' => e = .returned (.bool (ltb ⟨ai, ni⟩ ⟨aj, nj⟩)) ∧ ∃ p : Regrown, w'' = Go.Sort.grow (redrawn w p.d) p.os) := Lib.hid (fun d os => Calls.regrown_of (before_calls ⟨ai, ni⟩ ⟨aj, nj⟩ _))
  generalize l.length = n at *
  go_enter Try.func110, Try.ntmps110
  go_upto_region 1 with fail
  refine wp_region_quiet_below (by kernel_rfl) (by kernel_rfl) ?_
  repeat (go_big_quiet_step (exact K.out _ _))
  refine wpQuiet_nil ?_
  rintro _ ⟨⟨nq, osq⟩, rfl⟩
  go_wp2
  go_ret
  exact ⟨rfl, below_regrown w nq osq⟩
end Go.Proofs.Ytiphkgkhfomcaaa.Alarm
