/- The walks of ProbeWaits and ProbeNone. -/
import Derived.Test.YthafjgaleonbgaaProbeTold
namespace Go.Proofs.Ythafjgaleonbgaa.Probe
open Go.BigFrame Go.RowKit Go.Proofs.Ythafjgaleonbgaa.Aid
attribute [local go_sem] max_2 min_2 max2_i min2_i
def Yes (w : World) (e : Ending) (w' : World) : Prop := e = .returned (.bool true) ∧ Below w.heap.size w w'
def zeroPr : Pr := ⟨false, false, 0⟩
theorem new_pr (w : World) : IsPr (w.alloc (.cells #[.bool false, .bool false, .int .i64 0] 66)) w.heap.size zeroPr := Blk.new w 66 _
set_option maxHeartbeats 1000000 in
theorem known_calls (w : World) : Calls Try.prog 42 #[] w (Yes w) := by
  have N := Lib.hid (new_pr w)
  have C1 := Lib.hid (start_ok w.heap.size zeroPr 20 true _ N.out rfl (by decide) (by decide))
  have hk : told ⟨true, true, 20⟩ 20 true 10 20 false = ((⟨false, false, 0⟩ : Pr), (1 : Int)) := by simp [told, twice, lenOf]
  have T := Lib.hid (fun (X : World) (h : IsPr X w.heap.size ⟨true, true, 20⟩) => told_calls w.heap.size ⟨true, true, 20⟩ 20 true 10 20 false X h ⟨by decide, by decide⟩ ⟨by decide, by decide⟩)
  simp only [hk] at T
  clear hk
  unfold span at T
  go_enter Try.func42, Try.ntmps42
  go_wp2_with fail
  refine C1.out.mono ?_
  rintro e w1 ⟨rfl, p1, g1⟩
  have P1 := Lib.hid p1
  have B1 := Lib.hid (below_grown ((Below.refl _ w).alloc (Nat.le_refl _) _) (by simp) g1 (Nat.le_refl _))
  clear p1 g1
  go_wp2_with fail
  refine (start_on _ _ 30 true w1 P1.out rfl).mono ?_
  rintro e w2 ⟨rfl, rfl⟩
  go_wp2_with fail
  refine (T.out w1 P1.out).mono ?_
  rintro e w2 ⟨rfl, p2, g2⟩
  have B2 := Lib.hid (below_grown B1.out B1.out.size g2 (Nat.le_refl _))
  have P2 := Lib.hid p2
  clear p2 g2
  go_wp2_with fail
  refine (on_calls _ _ w2 P2.out).mono ?_
  rintro e w3 ⟨rfl, rfl⟩
  go_wp2
  go_ret
  exact ⟨rfl, B2.out⟩
def wait (srtt : Int) (has one : Bool) (delay : Int) : Int :=
  max 1 (min (max (if has then 2 * (min (max srtt 0) 68719476736) + (if one then min (max delay 0) 68719476736 else 0) else 1000000) 0) 68719476736)
theorem time_calls (t : Int) (w : World) : Calls Try.prog 67 #[.int .i64 t] w fun e w' => e = .returned (.int .i64 (min (max t 0) 68719476736)) ∧ w = w' := by
  go_enter Try.func67, Try.ntmps67
  go_wp2
  go_ret
  exact ⟨rfl, rfl⟩
theorem time_ref (t : Int) (w : World) : Calls Try.prog 68 #[.int .i64 t] w fun e w' => e = .returned (.int .i64 (min (max t 0) 68719476736)) ∧ w = w' := by
  go_enter Try.func68, Try.ntmps68
  go_wp2
  go_ret
  exact ⟨rfl, rfl⟩
theorem wait_calls (srtt : Int) (has one : Bool) (delay : Int) (w : World) : Calls Try.prog 49 #[.int .i64 srtt, .bool has, .bool one, .int .i64 delay] w fun e w' => e = .returned (.int .i64 (wait srtt has one delay)) ∧ w = w' := by
  cases has <;> cases one
  all_goals
    go_enter Try.func49, Try.ntmps49
    go_wp2_with (first | (go_at_call 67; refine (time_calls _ _).mono ?_; rintro e w1 ⟨rfl, rfl⟩))
    go_ret
    exact ⟨ret_int (by simp [wait]), rfl⟩
theorem wait_ref (srtt : Int) (has one : Bool) (delay : Int) (w : World) : Calls Try.prog 50 #[.int .i64 srtt, .bool has, .bool one, .int .i64 delay] w fun e w' => e = .returned (.int .i64 (wait srtt has one delay)) ∧ w = w' := by
  cases has <;> cases one
  all_goals
    go_enter Try.func50, Try.ntmps50
    go_wp2_with (first | (go_at_call 68; refine (time_ref _ _).mono ?_; rintro e w1 ⟨rfl, rfl⟩))
    go_ret
    exact ⟨ret_int (by simp [wait]; omega), rfl⟩
theorem waits_walk (srtt : Int) (has one : Bool) (delay : Int) (w : World) : Calls Try.prog 13 #[.int .i64 srtt, .bool has, .bool one, .int .i64 delay] w (Yes w) := by
  have hb : 1 ≤ wait srtt has one delay ∧ wait srtt has one delay ≤ 68719476736 := by unfold wait; omega
  have C1 := Lib.hid (wait_calls srtt has one delay)
  have C2 := Lib.hid (wait_ref srtt has one delay)
  generalize wait srtt has one delay = n at *
  obtain ⟨n0, n1⟩ := hb
  go_enter Try.func13, Try.ntmps13
  go_wp2_with fail
  refine (known_calls _).mono ?_
  rintro e w1 ⟨rfl, b1⟩
  have B1 := Lib.hid b1
  clear b1
  go_wp2_with fail
  refine (C1.out w1).mono ?_
  rintro e w2 ⟨rfl, rfl⟩
  go_wp2_with fail
  refine (C2.out w1).mono ?_
  rintro e w2 ⟨rfl, rfl⟩
  go_wp2_with fail
  refine (known_calls _).mono ?_
  rintro e w3 ⟨rfl, b3⟩
  go_wp2
  go_ret
  exact ⟨rfl, below_then B1.out B1.out.size b3⟩
theorem told_nil (ack : Int) (isDup : Bool) (f t : Int) (bare : Bool) (w : World) : Calls Try.prog 45 #[.pointer none, .int .i64 ack, .bool isDup, span f t, .bool bare] w fun e w' => e = .returned (.int .i64 0) ∧ Below w.heap.size w w' := by
  unfold span
  go_enter Try.func45, Try.ntmps45
  go_wp2_with fail
  refine (on_nil _).mono ?_
  rintro e w1 ⟨rfl, rfl⟩
  go_wp2
  go_ret
  exact ⟨rfl, ((((((Below.refl _ w).alloc (Nat.le_refl _) _).alloc (by simp) _).alloc (by simp; omega) _).alloc (by simp; omega) _).alloc (by simp; omega) _)⟩
theorem none_walk (e0 : Int) (w : World) : Calls Try.prog 12 #[.int .i64 e0] w (Yes w) := by
  have T := Lib.hid (told_nil e0 true 0 0 true)
  unfold span at T
  go_enter Try.func12, Try.ntmps12
  go_wp2_with fail
  refine (known_calls _).mono ?_
  rintro e w1 ⟨rfl, b1⟩
  have B1 := Lib.hid b1
  clear b1
  go_wp2_with fail
  refine (start_nil e0 true w1).mono ?_
  rintro e w2 ⟨rfl, rfl⟩
  go_wp2_with fail
  refine (T.out w1).mono ?_
  rintro e w2 ⟨rfl, b2⟩
  have B2 := Lib.hid (below_then B1.out B1.out.size b2)
  clear b2
  go_wp2_with fail
  refine (stop_nil w2).mono ?_
  rintro e w3 ⟨rfl, rfl⟩
  go_wp2_with fail
  refine (on_nil w2).mono ?_
  rintro e w3 ⟨rfl, rfl⟩
  go_wp2_with fail
  refine (end_nil w2).mono ?_
  rintro e w3 ⟨rfl, rfl⟩
  go_wp2_with fail
  refine (again_nil w2).mono ?_
  rintro e w3 ⟨rfl, rfl⟩
  go_wp2_with fail
  refine (known_calls _).mono ?_
  rintro e w3 ⟨rfl, b3⟩
  go_wp2
  go_ret
  exact ⟨rfl, below_then B2.out B2.out.size b3⟩
end Go.Proofs.Ythafjgaleonbgaa.Probe
