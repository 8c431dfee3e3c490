/- Chapter 16's probe: its small functions and what its asks hold. -/
import Derived.Test.YthafjgaleonbgaaRtt
import Derived.BigQuiet
import Derived.Deep.DeepCutAuto
namespace Go.Proofs.Ythafjgaleonbgaa.Probe
open Go.BigFrame Go.RowKit Go.Proofs.Ythafjgaleonbgaa.Aid
structure Pr where
  on : Bool
  again : Bool
  end_ : Int
def cells (s : Pr) : Array Value := #[.bool s.on, .bool s.again, .int .i64 s.end_]
def IsPr (w : World) (g : Nat) (s : Pr) : Prop := Blk w g 66 (cells s)
theorem facts {w : World} {g : Nat} {s : Pr} (h : IsPr w g s) : (∀ i, w.frozen? ⟨g, i, none⟩ = false) ∧ w.cell? ⟨g, 0, none⟩ = some (.bool s.on) ∧ w.cell? ⟨g, 1, none⟩ = some (.bool s.again) ∧ w.cell? ⟨g, 2, none⟩ = some (.int .i64 s.end_) :=
  ⟨h.frozen, h.cell 0, h.cell 1, h.cell 2⟩
theorem on_calls (g : Nat) (s : Pr) (w : World) (h : IsPr w g s) : Calls Try.prog 44 #[.pointer (some ⟨g, 0, none⟩)] w fun e w' => e = .returned (.bool s.on) ∧ w = w' := by
  obtain ⟨hf, c0, c1, c2⟩ := facts h
  clear h
  go_enter Try.func44, Try.ntmps44
  go_wp2
  go_ret
  exact ⟨rfl, rfl⟩
theorem on_nil (w : World) : Calls Try.prog 44 #[.pointer none] w fun e w' => e = .returned (.bool false) ∧ w = w' := by
  go_enter Try.func44, Try.ntmps44
  go_wp2
  go_ret
  exact ⟨rfl, rfl⟩
theorem end_calls (g : Nat) (s : Pr) (w : World) (h : IsPr w g s) (ho : s.on = true) : Calls Try.prog 47 #[.pointer (some ⟨g, 0, none⟩)] w fun e w' => e = .returned (.int .i64 s.end_) ∧ w = w' := by
  have O := Lib.hid (ho ▸ on_calls g s w h)
  obtain ⟨hf, c0, c1, c2⟩ := facts h
  rw [ho] at c0
  clear h
  go_enter Try.func47, Try.ntmps47
  go_wp2_with fail
  refine O.out.mono ?_
  rintro e w1 ⟨rfl, rfl⟩
  go_wp2
  go_ret
  exact ⟨rfl, rfl⟩
theorem end_nil (w : World) : Calls Try.prog 47 #[.pointer none] w fun e w' => e = .returned (.int .i64 0) ∧ w = w' := by
  go_enter Try.func47, Try.ntmps47
  go_wp2_with fail
  refine (on_nil w).mono ?_
  rintro e w1 ⟨rfl, rfl⟩
  go_wp2
  go_ret
  exact ⟨rfl, rfl⟩
theorem again_nil (w : World) : Calls Try.prog 48 #[.pointer none] w fun e w' => e = .returned (.bool false) ∧ w = w' := by
  go_enter Try.func48, Try.ntmps48
  go_wp2_with fail
  refine (on_nil w).mono ?_
  rintro e w1 ⟨rfl, rfl⟩
  go_wp2
  go_ret
  exact ⟨rfl, rfl⟩
def Post (g : Nat) (w : World) (v : Value) (s : Pr) (e : Ending) (w' : World) : Prop := e = .returned v ∧ IsPr w' g s ∧ w.grownBy w' (some g)
theorem stop_calls (g : Nat) (s : Pr) (w : World) (h : IsPr w g s) (ho : s.on = true) : Calls Try.prog 46 #[.pointer (some ⟨g, 0, none⟩)] w (Post g w (.bool true) ⟨false, false, 0⟩) := by
  have O := Lib.hid (ho ▸ on_calls g s w h)
  have H := Lib.hid h
  obtain ⟨hf, c0, c1, c2⟩ := facts h
  rw [ho] at c0
  clear h
  go_enter Try.func46, Try.ntmps46
  go_wp2_with fail
  refine O.out.mono ?_
  rintro e w1 ⟨rfl, rfl⟩
  go_wp2
  go_ret
  exact ⟨rfl, (((H.out.set_ 0 _).set_ 1 _).set_ 2 _).eq rfl, grown_set (grown_set (grown_set (grown_refl _ _) _ _) _ _) _ _⟩
theorem stop_nil (w : World) : Calls Try.prog 46 #[.pointer none] w fun e w' => e = .returned (.bool false) ∧ w = w' := by
  go_enter Try.func46, Try.ntmps46
  go_wp2_with fail
  refine (on_nil w).mono ?_
  rintro e w1 ⟨rfl, rfl⟩
  go_wp2
  go_ret
  exact ⟨rfl, rfl⟩
theorem start_on (g : Nat) (s : Pr) (e0 : Int) (a : Bool) (w : World) (h : IsPr w g s) (ho : s.on = true) : Calls Try.prog 43 #[.pointer (some ⟨g, 0, none⟩), .int .i64 e0, .bool a] w fun e w' => e = .returned (.int .i64 13) ∧ w = w' := by
  obtain ⟨hf, c0, c1, c2⟩ := facts h
  rw [ho] at c0
  clear h
  go_enter Try.func43, Try.ntmps43
  go_wp2
  go_ret
  exact ⟨rfl, rfl⟩
theorem start_bad (g : Nat) (s : Pr) (e0 : Int) (a : Bool) (w : World) (h : IsPr w g s) (ho : s.on = false) (hb : e0 < 0 ∨ e0 > 4611686018427387904) : Calls Try.prog 43 #[.pointer (some ⟨g, 0, none⟩), .int .i64 e0, .bool a] w fun e w' => e = .returned (.int .i64 3) ∧ w = w' := by
  obtain ⟨hf, c0, c1, c2⟩ := facts h
  rw [ho] at c0
  clear h
  have hc : e0 < 0 ∨ (¬ e0 < 0 ∧ e0 > 4611686018427387904) := by omega
  rcases hc with h1 | ⟨h1, h2⟩
  all_goals
    go_enter Try.func43, Try.ntmps43
    go_wp2
    go_ret
    exact ⟨rfl, rfl⟩
theorem start_ok (g : Nat) (s : Pr) (e0 : Int) (a : Bool) (w : World) (h : IsPr w g s) (ho : s.on = false) (h0 : 0 ≤ e0) (h1 : e0 ≤ 4611686018427387904) : Calls Try.prog 43 #[.pointer (some ⟨g, 0, none⟩), .int .i64 e0, .bool a] w (Post g w (.int .i64 0) ⟨true, a, e0⟩) := by
  have H := Lib.hid h
  obtain ⟨hf, c0, c1, c2⟩ := facts h
  rw [ho] at c0
  clear h
  go_enter Try.func43, Try.ntmps43
  go_wp2
  go_ret
  exact ⟨rfl, (((H.out.set_ 0 _).set_ 1 _).set_ 2 _).eq rfl, grown_set (grown_set (grown_set (grown_refl _ _) _ _) _ _) _ _⟩
theorem start_nil (e0 : Int) (a : Bool) (w : World) : Calls Try.prog 43 #[.pointer none, .int .i64 e0, .bool a] w fun e w' => e = .returned (.int .i64 1) ∧ w = w' := by
  go_enter Try.func43, Try.ntmps43
  go_wp2
  go_ret
  exact ⟨rfl, rfl⟩
end Go.Proofs.Ythafjgaleonbgaa.Probe
