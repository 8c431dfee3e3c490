/- Chapter 25 (duct): Take, Drop. -/
import Derived.Test.YtiphkgkhfomcaaaDuctEnds
set_option linter.unusedSimpArgs false
set_option linter.unusedVariables false
attribute [local go_sem ↓] Go.wp_at_zero Go.wp_at_succ
namespace Go.Proofs.Ytiphkgkhfomcaaa.Duct
open Go.BigFrame Go.RowKit Go.OpenShut Go.Proofs.Ytiphkgkhfomcaaa.Aid Go.Proofs.Ytiphkgkhfomcaaa.DMap Go.Proofs.Ytiphkgkhfomcaaa.Byt
theorem ends_nil (id now kind : Int) (w : World) : Calls Try.prog 52 #[.pointer Option.none, .int .i64 id, .int .i64 now, .int .i64 kind] w (Same w (.tuple #[nilS, .int .i64 1])) := by
  go_enter Try.func52, Try.ntmps52
  go_wp2_with (go_at_call 50; refine (ask_none _ _).mono ?_; rintro e w1 ⟨rfl, rfl⟩)
  go_ret2
  exact ⟨rfl, rfl⟩
theorem take_of {v : Value} {er : Int} {p : Value} {id now : Int} {w : World} {R : World → Prop} (K : Calls Try.prog 52 #[p, .int .i64 id, .int .i64 now, .int .i64 1] w fun e w' => e = .returned (.tuple #[v, .int .i64 er]) ∧ R w') :
    Calls Try.prog 30 #[p, .int .i64 id, .int .i64 now] w fun e w' => e = .returned (.tuple #[v, .int .i64 er]) ∧ R w' := by
  have K := Lib.hid K
  go_enter Try.func30, Try.ntmps30
  go_wp2_with fail
  refine K.out.mono ?_
  rintro e w1 ⟨rfl, hR⟩
  have HR := Lib.hid hR
  clear hR
  go_wp2
  go_ret2
  exact ⟨rfl, HR.out⟩
theorem drop_of {v : Value} {er : Int} {p : Value} {id now : Int} {w : World} {R : World → Prop} (K : Calls Try.prog 52 #[p, .int .i64 id, .int .i64 now, .int .i64 2] w fun e w' => e = .returned (.tuple #[v, .int .i64 er]) ∧ R w') :
    Calls Try.prog 29 #[p, .int .i64 id, .int .i64 now] w fun e w' => e = .returned (.int .i64 er) ∧ R w' := by
  have K := Lib.hid K
  go_enter Try.func29, Try.ntmps29
  go_wp2_with fail
  refine K.out.mono ?_
  rintro e w1 ⟨rfl, hR⟩
  have HR := Lib.hid hR
  clear hR
  go_wp2
  go_ret
  exact ⟨rfl, HR.out⟩
theorem take_nil (id now : Int) (w : World) : Calls Try.prog 30 #[.pointer Option.none, .int .i64 id, .int .i64 now] w (Same w (.tuple #[nilS, .int .i64 1])) := take_of (ends_nil id now 1 w)
theorem drop_nil (id now : Int) (w : World) : Calls Try.prog 29 #[.pointer Option.none, .int .i64 id, .int .i64 now] w (Same w (.int .i64 1)) := drop_of (ends_nil id now 2 w)
theorem take_bad (g mb : Nat) (fv : Value) (m : Int → Option Value) (L : Dt) (id now : Int) (w : World) (h : IsDuct w g mb fv m L) (hb : bad L now) : Calls Try.prog 30 #[.pointer (some ⟨g, 0, Option.none⟩), .int .i64 id, .int .i64 now] w (Same w (.tuple #[nilS, .int .i64 3])) := take_of (ends_bad g mb fv m L id now 1 w h hb)
theorem drop_bad (g mb : Nat) (fv : Value) (m : Int → Option Value) (L : Dt) (id now : Int) (w : World) (h : IsDuct w g mb fv m L) (hb : bad L now) : Calls Try.prog 29 #[.pointer (some ⟨g, 0, Option.none⟩), .int .i64 id, .int .i64 now] w (Same w (.int .i64 3)) := drop_of (ends_bad g mb fv m L id now 2 w h hb)
theorem take_none (g mb : Nat) (fv : Value) (m : Int → Option Value) (L : Dt) (id now : Int) (w : World) (h : IsDuct w g mb fv m L) (hb : ¬ bad L now) (hi : Fits id) (hr : L.raws id = Option.none) : Calls Try.prog 30 #[.pointer (some ⟨g, 0, Option.none⟩), .int .i64 id, .int .i64 now] w (Same w (.tuple #[nilS, .int .i64 10])) := take_of (ends_none g mb fv m L id now 1 w h hb hi hr)
theorem drop_none (g mb : Nat) (fv : Value) (m : Int → Option Value) (L : Dt) (id now : Int) (w : World) (h : IsDuct w g mb fv m L) (hb : ¬ bad L now) (hi : Fits id) (hr : L.raws id = Option.none) : Calls Try.prog 29 #[.pointer (some ⟨g, 0, Option.none⟩), .int .i64 id, .int .i64 now] w (Same w (.int .i64 10)) := drop_of (ends_none g mb fv m L id now 2 w h hb hi hr)
theorem take_ok (g mb : Nat) (fv : Value) (m : Int → Option Value) (L : Dt) (k : Nat) (now : Int) (xs : List Int) (w : World) (h : IsDuct w g mb fv m L) (hb : ¬ bad L now) (hr : L.raws k = some xs) : Calls Try.prog 30 #[.pointer (some ⟨g, 0, Option.none⟩), .int .i64 k, .int .i64 now] w (Ended w g mb fv (endD L k now 1) xs) := by
  have K := Lib.hid (ends_ok g mb fv m L k now 1 xs w h hb hr)
  clear h hb hr
  go_enter Try.func30, Try.ntmps30
  go_wp2_with fail
  refine K.out.mono ?_
  rintro e w1 ⟨v, m', rfl, hrow, hd, hk, ho⟩
  have HR := Lib.hid (And.intro hrow (And.intro hd (And.intro hk ho)))
  clear hrow hd hk ho
  go_wp2
  go_ret2
  exact ⟨v, m', rfl, HR.out⟩
theorem drop_ok (g mb : Nat) (fv : Value) (m : Int → Option Value) (L : Dt) (k : Nat) (now : Int) (xs : List Int) (w : World) (h : IsDuct w g mb fv m L) (hb : ¬ bad L now) (hr : L.raws k = some xs) : Calls Try.prog 29 #[.pointer (some ⟨g, 0, Option.none⟩), .int .i64 k, .int .i64 now] w (Turn w g mb fv (endD L k now 2) (.int .i64 0)) := by
  have K := Lib.hid (ends_ok g mb fv m L k now 2 xs w h hb hr)
  clear h hb hr
  go_enter Try.func29, Try.ntmps29
  go_wp2_with fail
  refine K.out.mono ?_
  rintro e w1 ⟨v, m', rfl, hrow, hd, hk, ho⟩
  have HR := Lib.hid (And.intro hd hk)
  clear hrow hd hk ho
  go_wp2
  go_ret
  exact ⟨rfl, fv, m', HR.out.1, HR.out.2, fun k hk => .inl hk⟩
end Go.Proofs.Ytiphkgkhfomcaaa.Duct
