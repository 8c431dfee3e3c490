/- The walks of chapter 17's functions (window), each by what it computes. -/
import Derived.Test.YthafjgaleonbgaaProg
import Derived.Test.YthafjgaleonbgaaAid
import Derived.WalkKit
import Derived.WalkSpells
import Derived.WalkLawsBesides
import Derived.RegionTactic
import Derived.ChangeAlike
import Derived.Deep.QuietTactic
import Derived.BigQuiet
import Derived.BigRegion
import Derived.Deep.RegionHeld3
import Derived.Deep.DrawnRows
import Derived.OpenShut
import Derived.StillTailTactics
namespace Go.Proofs.Ythafjgaleonbgaa.Window
open Go.RowKit Go.OpenShut Go.Proofs.Ythafjgaleonbgaa.Aid
attribute [local go_sem] max_2 min_2 max2_i min2_i
structure Win where
  mss : Int
  most : Int
  cwnd : Int
  thresh : Int
  count : Int
def cells (s : Win) : Array Value := #[.int .i64 s.mss, .int .i64 s.most, .int .i64 s.cwnd, .int .i64 s.thresh, .int .i64 s.count]
def IsWin (w : World) (g : Nat) (s : Win) : Prop := Blk w g 78 (cells s)
theorem facts {w : World} {g : Nat} {s : Win} (h : IsWin w g s) : (∀ i, w.frozen? ⟨g, i, none⟩ = false) ∧ w.cell? ⟨g, 0, none⟩ = some (.int .i64 s.mss) ∧ w.cell? ⟨g, 1, none⟩ = some (.int .i64 s.most) ∧
    w.cell? ⟨g, 2, none⟩ = some (.int .i64 s.cwnd) ∧ w.cell? ⟨g, 3, none⟩ = some (.int .i64 s.thresh) ∧ w.cell? ⟨g, 4, none⟩ = some (.int .i64 s.count) :=
  ⟨h.frozen, h.cell 0, h.cell 1, h.cell 2, h.cell 3, h.cell 4⟩
def Ok (s : Win) : Prop := 1 ≤ s.mss ∧ s.mss ≤ 2048 ∧ s.mss ≤ s.most ∧ s.most ≤ 1048576 ∧ s.mss ≤ s.cwnd ∧ s.cwnd ≤ s.most ∧ 1 ≤ s.thresh ∧ s.thresh ≤ s.most ∧ 0 ≤ s.count ∧ s.count ≤ 1048576
def Post (g : Nat) (w : World) (v : Value) (s : Win) (e : Ending) (w' : World) : Prop := e = .returned v ∧ IsWin w' g s ∧ w.grownBy w' (some g)
def careful (s : Win) (a : Int) : Win :=
  if s.count + min a s.cwnd ≥ s.cwnd then { s with count := s.count + min a s.cwnd - s.cwnd, cwnd := s.cwnd + s.mss } else { s with count := s.count + min a s.cwnd }
set_option maxHeartbeats 1000000 in
theorem careful_calls (g : Nat) (s : Win) (a : Int) (w : World) (hs : IsWin w g s) (ho : Ok s) (ha : 1 ≤ a) :
    Calls Try.prog 52 #[.pointer (some ⟨g, 0, none⟩), .int .i64 a] w (Post g w (.tuple #[]) (careful s a)) := by
  obtain ⟨hf, c0, c1, c2, c3, c4⟩ := facts hs
  obtain ⟨mss, most, cwnd, thresh, count⟩ := s
  obtain ⟨o1, o2, o3, o4, o5, o6, o7, o8, o9, o10⟩ := ho
  simp only at *
  have HS := Lib.hid hs
  clear hs
  by_cases h1 : count + min a cwnd ≥ cwnd
  · go_enter Try.func52, Try.ntmps52
    go_wp2
    go_still_tail 13, (by kernel_rfl)
    go_wp2
    go_quiet (fail)
    go_wp2
    go_region
    go_wp2
    go_region
    go_wp2
    go_end0
    rw [careful, if_pos h1]
    exact ⟨rfl, ((((HS.out.set_ 4 _).drewN _).set_ 4 _).set_ 2 _).drew.eq rfl, grown_drew (grown_set (grown_set (grown_drewN (grown_set (grown_refl _ _) _ _) _) _ _) _ _)⟩
  · go_enter Try.func52, Try.ntmps52
    go_wp2
    go_still_tail 13, (by kernel_rfl)
    go_wp2
    go_quiet (fail)
    go_wp2
    go_end0
    rw [careful, if_neg (by simp only; omega)]
    exact ⟨rfl, ((HS.out.set_ 4 _).drew.drewN _).eq rfl, grown_drewN (grown_drew (grown_set (grown_refl _ _) _ _)) _⟩
def slowly (s : Win) (a : Int) : Win := { s with cwnd := s.cwnd + min a s.mss }
theorem slow_calls (g : Nat) (s : Win) (a : Int) (w : World) (hs : IsWin w g s) (ho : Ok s) (ha : 1 ≤ a) :
    Calls Try.prog 53 #[.pointer (some ⟨g, 0, none⟩), .int .i64 a] w (Post g w (.tuple #[]) (slowly s a)) := by
  obtain ⟨hf, c0, c1, c2, c3, c4⟩ := facts hs
  obtain ⟨mss, most, cwnd, thresh, count⟩ := s
  obtain ⟨o1, o2, o3, o4, o5, o6, o7, o8, o9, o10⟩ := ho
  simp only at *
  have HS := Lib.hid hs
  clear hs
  go_enter Try.func53, Try.ntmps53
  go_wp2
  go_still_tail 13, (by kernel_rfl)
  go_wp2
  go_end0
  exact ⟨rfl, (HS.out.set_ 2 _).drew.eq rfl, grown_drew (grown_set (grown_refl _ _) _ _)⟩
theorem isslow_calls (g : Nat) (s : Win) (w : World) (hs : IsWin w g s) : Calls Try.prog 25 #[.pointer (some ⟨g, 0, none⟩)] w fun e w' => e = .returned (.bool (decide (s.cwnd < s.thresh))) ∧ ∃ n, w' = w.drewN n := by
  obtain ⟨hf, c0, c1, c2, c3, c4⟩ := facts hs
  clear hs
  go_enter Try.func25, Try.ntmps25
  go_wp2
  go_quiet (fail)
  go_wp2
  go_ret
  exact ⟨rfl, _, rfl⟩
def grow0 (s : Win) (a : Int) : Win := if s.cwnd < s.thresh then slowly s a else careful s a
def grow (s : Win) (a : Int) : Win := if a < 1 then s else { grow0 s a with cwnd := min (grow0 s a).cwnd (grow0 s a).most }
theorem grow0_bd (s : Win) (a : Int) (ho : Ok s) (ha : 1 ≤ a) : (grow0 s a).cwnd ≤ 2000000 ∧ 0 ≤ (grow0 s a).cwnd := by
  obtain ⟨o1, o2, o3, o4, o5, o6, o7, o8, o9, o10⟩ := ho
  by_cases h1 : s.cwnd < s.thresh
  · rw [grow0, if_pos h1]
    exact ⟨by simp only [slowly]; omega, by simp only [slowly]; omega⟩
  · rw [grow0, if_neg h1]
    by_cases h2 : s.count + min a s.cwnd ≥ s.cwnd
    · rw [careful, if_pos h2]
      exact ⟨by simp only; omega, by simp only; omega⟩
    · rw [careful, if_neg h2]
      exact ⟨by simp only; omega, by simp only; omega⟩
set_option maxHeartbeats 1000000 in
theorem grow_calls (g : Nat) (s : Win) (a : Int) (w : World) (hs : IsWin w g s) (ho : Ok s) :
    Calls Try.prog 17 #[.pointer (some ⟨g, 0, none⟩), .int .i64 a] w (Post g w (.tuple #[]) (grow s a)) := by
  have HS := Lib.hid hs
  clear hs
  by_cases h1 : a < 1
  · go_enter Try.func17, Try.ntmps17
    go_wp2
    go_end0
    rw [grow, if_pos h1]
    exact ⟨rfl, HS.out, grown_refl _ _⟩
  · have ha : 1 ≤ a := by omega
    have hb := grow0_bd s a ho ha
    have SL := Lib.hid (isslow_calls g s w HS.out)
    have C1 := Lib.hid (fun n => slow_calls g s a (w.drewN n) (HS.out.drewN n) ho ha)
    have C2 := Lib.hid (fun n => careful_calls g s a (w.drewN n) (HS.out.drewN n) ho ha)
    have E : Hid (grow s a = { grow0 s a with cwnd := min (grow0 s a).cwnd (grow0 s a).most }) := Lib.hid (by rw [grow, if_neg (by omega)])
    generalize grow s a = r at *
    by_cases h2 : s.cwnd < s.thresh
    · have e0 : grow0 s a = slowly s a := by rw [grow0, if_pos h2]
      rw [← e0] at C1
      clear e0
      generalize grow0 s a = t at *
      have hd : decide (s.cwnd < s.thresh) = true := by simpa using h2
      rw [hd] at SL
      clear hd h2 C2
      go_enter Try.func17, Try.ntmps17
      go_wp2_with (first | (go_at_call 25; refine (SL.out).mono ?_; rintro e w2 ⟨rfl, n2, rfl⟩) | (go_at_call 53; refine (C1.out _).mono ?_; rintro e w3 ⟨rfl, h3, g3⟩; obtain ⟨hf, c0, c1, c2, c3, c4⟩ := facts h3; have H3 := Lib.hid h3; clear h3))
      go_still_tail 12, (by kernel_rfl)
      go_wp2
      go_end0
      rw [E.out]
      exact ⟨rfl, ((H3.out.set_ 2 _).drew).eq rfl, grown_drew (grown_set (grown_trans (grown_drewN (grown_refl _ _) _) g3) _ _)⟩
    · have e0 : grow0 s a = careful s a := by rw [grow0, if_neg h2]
      rw [← e0] at C2
      clear e0
      generalize grow0 s a = t at *
      have hd : decide (s.cwnd < s.thresh) = false := by simpa using h2
      rw [hd] at SL
      clear hd h2 C1
      go_enter Try.func17, Try.ntmps17
      go_wp2_with (first | (go_at_call 25; refine (SL.out).mono ?_; rintro e w2 ⟨rfl, n2, rfl⟩) | (go_at_call 52; refine (C2.out _).mono ?_; rintro e w3 ⟨rfl, h3, g3⟩; obtain ⟨hf, c0, c1, c2, c3, c4⟩ := facts h3; have H3 := Lib.hid h3; clear h3))
      go_still_tail 12, (by kernel_rfl)
      go_wp2
      go_end0
      rw [E.out]
      exact ⟨rfl, ((H3.out.set_ 2 _).drew).eq rfl, grown_drew (grown_set (grown_trans (grown_drewN (grown_refl _ _) _) g3) _ _)⟩
theorem held_calls (v lo hi : Int) (w : World) : Calls Try.prog 51 #[.int .i64 v, .int .i64 lo, .int .i64 hi] w fun e w' => e = .returned (.int .i64 (min (max v lo) hi)) ∧ w = w' := by
  go_enter Try.func51, Try.ntmps51
  go_wp2
  go_ret
  exact ⟨rfl, rfl⟩
def cut (s : Win) (f : Int) : Win := { s with thresh := min (max (min (max f 0) 1048576 / 2) (2 * s.mss)) s.most, count := 0 }
set_option maxHeartbeats 1000000 in
theorem cut_calls (g : Nat) (s : Win) (f : Int) (w : World) (hs : IsWin w g s) (ho : Ok s) :
    Calls Try.prog 16 #[.pointer (some ⟨g, 0, none⟩), .int .i64 f] w (Post g w (.int .i64 (cut s f).thresh) (cut s f)) := by
  obtain ⟨hf, c0, c1, c2, c3, c4⟩ := facts hs
  have HS := Lib.hid hs
  clear hs
  obtain ⟨mss, most, cwnd, thresh, count⟩ := s
  obtain ⟨o1, o2, o3, o4, o5, o6, o7, o8, o9, o10⟩ := ho
  simp only at *
  go_enter Try.func16, Try.ntmps16
  go_wp2_with (first | (go_at_call 51; refine (held_calls _ _ _ _).mono ?_; rintro e w2 ⟨rfl, rfl⟩))
  go_region
  go_wp2
  go_ret
  exact ⟨rfl, (((HS.out.set_ 3 _).set_ 4 _).drew).eq rfl, grown_drew (grown_set (grown_set (grown_refl _ _) _ _) _ _)⟩
def set_ (s : Win) (n : Int) : Win := { s with cwnd := min (max n s.mss) s.most }
theorem set_calls (g : Nat) (s : Win) (n : Int) (w : World) (hs : IsWin w g s) :
    Calls Try.prog 26 #[.pointer (some ⟨g, 0, none⟩), .int .i64 n] w (Post g w (.tuple #[]) (set_ s n)) := by
  obtain ⟨hf, c0, c1, c2, c3, c4⟩ := facts hs
  have HS := Lib.hid hs
  clear hs
  go_enter Try.func26, Try.ntmps26
  go_wp2
  go_still_tail 13, (by kernel_rfl)
  still_call ((held_calls _ _ _ _).mono fun e w' h => ⟨h.1, h.2.symm⟩)
  repeat still_step
  refine wpStill_nil ?_
  go_wp2
  go_end0
  exact ⟨rfl, ((HS.out.drew.set_ 2 _)).eq rfl, (grown_set (grown_drew (grown_refl _ _)) _ _)⟩
theorem collapse_calls (g : Nat) (s : Win) (w : World) (hs : IsWin w g s) :
    Calls Try.prog 27 #[.pointer (some ⟨g, 0, none⟩)] w (Post g w (.tuple #[]) { s with cwnd := s.mss }) := by
  obtain ⟨hf, c0, c1, c2, c3, c4⟩ := facts hs
  have HS := Lib.hid hs
  clear hs
  go_enter Try.func27, Try.ntmps27
  go_wp2
  go_end0
  exact ⟨rfl, (HS.out.set_ 2 _).eq rfl, grown_set (grown_refl _ _) _ _⟩
def lift (s : Win) (a b : Int) : Win := { s with cwnd := min (max s.cwnd a) s.most, thresh := min (max s.thresh b) s.most }
set_option maxHeartbeats 2000000 in
theorem lift_calls (g : Nat) (s : Win) (a b : Int) (w : World) (hs : IsWin w g s) :
    Calls Try.prog 21 #[.pointer (some ⟨g, 0, none⟩), .int .i64 a, .int .i64 b] w (Post g w (.tuple #[]) (lift s a b)) := by
  obtain ⟨hf, c0, c1, c2, c3, c4⟩ := facts hs
  have HS := Lib.hid hs
  clear hs
  go_enter Try.func21, Try.ntmps21
  go_wp2
  go_region
  go_wp2
  go_end0
  exact ⟨rfl, (((HS.out.set_ 2 _).set_ 3 _).drew).eq rfl, grown_drew (grown_set (grown_set (grown_refl _ _) _ _) _ _)⟩
theorem cwnd_calls (g : Nat) (s : Win) (w : World) (hs : IsWin w g s) : Calls Try.prog 18 #[.pointer (some ⟨g, 0, none⟩)] w fun e w' => e = .returned (.int .i64 s.cwnd) ∧ w = w' := by
  obtain ⟨hf, c0, c1, c2, c3, c4⟩ := facts hs
  clear hs
  go_enter Try.func18, Try.ntmps18
  go_wp2
  go_ret
  exact ⟨rfl, rfl⟩
theorem thresh_calls (g : Nat) (s : Win) (w : World) (hs : IsWin w g s) : Calls Try.prog 20 #[.pointer (some ⟨g, 0, none⟩)] w fun e w' => e = .returned (.int .i64 s.thresh) ∧ w = w' := by
  obtain ⟨hf, c0, c1, c2, c3, c4⟩ := facts hs
  clear hs
  go_enter Try.func20, Try.ntmps20
  go_wp2
  go_ret
  exact ⟨rfl, rfl⟩
theorem clone_calls (g : Nat) (s : Win) (w : World) (hs : IsWin w g s) : Calls Try.prog 24 #[.pointer (some ⟨g, 0, none⟩)] w fun e w' => e = .returned (.pointer (some ⟨w.heap.size, 0, none⟩)) ∧ IsWin w' w.heap.size s ∧ Below w.heap.size w w' ∧ w'.heap.size = w.heap.size + 1 := by
  obtain ⟨hf, c0, c1, c2, c3, c4⟩ := facts hs
  have hlt := hs.lt
  clear hs
  go_enter Try.func24, Try.ntmps24
  go_wp2
  go_ret
  exact ⟨rfl, Blk.new _ _ _, (Below.refl _ w).alloc (Nat.le_refl _) _, by simp⟩
def Right (a b c : Int) : Prop := 1 ≤ a ∧ a ≤ 2048 ∧ a ≤ c ∧ c ≤ 1048576 ∧ a ≤ b ∧ b ≤ c
def Fresh (a b c : Int) (w : World) (e : Ending) (w' : World) : Prop := e = .returned (.tuple #[.pointer (some ⟨w.heap.size, 0, none⟩), .int .i64 0]) ∧ IsWin w' w.heap.size ⟨a, c, b, c, 0⟩ ∧ Below w.heap.size w w' ∧ w.heap.size < w'.heap.size
theorem new_ok (a b c : Int) (w : World) (h : Right a b c) : Calls Try.prog 15 #[.int .i64 a, .int .i64 b, .int .i64 c] w (Fresh a b c w) := by
  obtain ⟨h1, h2, h3, h4, h5, h6⟩ := h
  go_enter Try.func15, Try.ntmps15
  go_wp2
  go_ret2
  exact ⟨rfl, Blk.new _ _ _, (Below.refl _ w).alloc (Nat.le_refl _) _, by simp⟩
theorem new_bad (a b c : Int) (w : World) (h : ¬ Right a b c) : Calls Try.prog 15 #[.int .i64 a, .int .i64 b, .int .i64 c] w fun e w' => e = .returned (.tuple #[.pointer none, .int .i64 2]) ∧ w = w' := by
  have hc : a < 1 ∨ (¬ a < 1 ∧ a > 2048) ∨ (¬ a < 1 ∧ ¬ a > 2048 ∧ c < a) ∨ (¬ a < 1 ∧ ¬ a > 2048 ∧ ¬ c < a ∧ c > 1048576) ∨ (¬ a < 1 ∧ ¬ a > 2048 ∧ ¬ c < a ∧ ¬ c > 1048576 ∧ b < a) ∨ (¬ a < 1 ∧ ¬ a > 2048 ∧ ¬ c < a ∧ ¬ c > 1048576 ∧ ¬ b < a ∧ b > c) := by
    unfold Right at h; omega
  clear h
  rcases hc with h1 | ⟨h1, h2⟩ | ⟨h1, h2, h3⟩ | ⟨h1, h2, h3, h4⟩ | ⟨h1, h2, h3, h4, h5⟩ | ⟨h1, h2, h3, h4, h5, h6⟩
  all_goals
    go_enter Try.func15, Try.ntmps15
    go_wp2
    go_ret2
    exact ⟨rfl, rfl⟩
theorem grow0_ok (s : Win) (a : Int) (ho : Ok s) : Ok (grow s a) := by
  obtain ⟨o1, o2, o3, o4, o5, o6, o7, o8, o9, o10⟩ := ho
  unfold grow
  split
  · exact ⟨o1, o2, o3, o4, o5, o6, o7, o8, o9, o10⟩
  · by_cases h1 : s.cwnd < s.thresh
    · rw [grow0, if_pos h1]
      simp only [slowly, Ok]
      omega
    · rw [grow0, if_neg h1]
      by_cases h2 : s.count + min a s.cwnd ≥ s.cwnd
      · rw [careful, if_pos h2]
        simp only [Ok]
        omega
      · rw [careful, if_neg h2]
        simp only [Ok]
        omega
theorem cut_ok (s : Win) (f : Int) (ho : Ok s) : Ok (cut s f) := by
  obtain ⟨o1, o2, o3, o4, o5, o6, o7, o8, o9, o10⟩ := ho
  simp only [cut, Ok]
  omega
theorem set_ok (s : Win) (f : Int) (ho : Ok s) : Ok (set_ s f) := by
  obtain ⟨o1, o2, o3, o4, o5, o6, o7, o8, o9, o10⟩ := ho
  simp only [set_, Ok]
  omega
theorem lift_ok (s : Win) (a b : Int) (ho : Ok s) : Ok (lift s a b) := by
  obtain ⟨o1, o2, o3, o4, o5, o6, o7, o8, o9, o10⟩ := ho
  simp only [lift, Ok]
  omega
def k0 : Win := ⟨10, 1000, 20, 1000, 0⟩
def k1 : Win := ⟨10, 1000, 27, 1000, 0⟩
def k2 : Win := ⟨10, 1000, 37, 1000, 0⟩
def k3 : Win := ⟨10, 1000, 37, 40, 0⟩
def k4 : Win := ⟨10, 1000, 40, 40, 0⟩
def k5 : Win := ⟨10, 1000, 50, 40, 0⟩
set_option maxHeartbeats 1000000 in
theorem known_calls (w : World) : Calls Try.prog 14 #[] w fun e w' => e = .returned (.bool true) ∧ Below w.heap.size w w' := by
  have o0 : Ok k0 := by simp [Ok, k0]
  have o1 : Ok k1 := by simp [Ok, k1]
  have o2 : Ok k2 := by simp [Ok, k2]
  have o4 : Ok k4 := by simp [Ok, k4]
  have A1 : Hid (grow k0 7 = k1) := Lib.hid (by rfl)
  have A2 : Hid (grow k1 50 = k2) := Lib.hid (by rfl)
  have A3 : Hid (cut k2 80 = k3) := Lib.hid (by rfl)
  have A4 : Hid (set_ k3 40 = k4) := Lib.hid (by rfl)
  have A5 : Hid (grow k4 40 = k5) := Lib.hid (by rfl)
  go_enter Try.func14, Try.ntmps14
  go_wp2_with fail
  refine (new_ok 10 20 1000 _ (by unfold Right; omega)).mono ?_
  rintro e w1 ⟨rfl, h1, b1, s1⟩
  have H1 : Hid (IsWin w1 w.heap.size k0) := Lib.hid h1
  clear h1
  go_wp2_with fail
  refine (grow_calls _ k0 _ _ H1.out o0).mono ?_
  rintro e w2 ⟨rfl, h2, g2⟩
  rw [A1.out] at h2
  have H2 := Lib.hid h2
  have b2 := below_grown b1 b1.size g2 (Nat.le_refl _)
  clear h2 g2 b1
  go_wp2_with fail
  refine (grow_calls _ k1 _ _ H2.out o1).mono ?_
  rintro e w3 ⟨rfl, h3, g3⟩
  rw [A2.out] at h3
  have H3 := Lib.hid h3
  have b3 := below_grown b2 b2.size g3 (Nat.le_refl _)
  clear h3 g3 b2
  go_wp2_with fail
  refine (cwnd_calls _ k2 _ H3.out).mono ?_
  rintro e w4 ⟨rfl, rfl⟩
  rw [show k2.cwnd = 37 from rfl]
  go_wp2_with fail
  refine (cut_calls _ k2 _ _ H3.out o2).mono ?_
  rintro e w4 ⟨rfl, h4, g4⟩
  rw [A3.out] at h4 ⊢
  rw [show k3.thresh = 40 from rfl]
  have H4 := Lib.hid h4
  have b4 := below_grown b3 b3.size g4 (Nat.le_refl _)
  clear h4 g4 b3
  go_wp2_with fail
  refine (set_calls _ k3 _ _ H4.out).mono ?_
  rintro e w5 ⟨rfl, h5, g5⟩
  rw [A4.out] at h5
  have H5 := Lib.hid h5
  have b5 := below_grown b4 b4.size g5 (Nat.le_refl _)
  clear h5 g5 b4
  go_wp2_with fail
  refine (grow_calls _ k4 _ _ H5.out o4).mono ?_
  rintro e w6 ⟨rfl, h6, g6⟩
  rw [A5.out] at h6
  have H6 := Lib.hid h6
  have b6 := below_grown b5 b5.size g6 (Nat.le_refl _)
  clear h6 g6 b5
  go_wp2_with fail
  refine (cwnd_calls _ k5 _ H6.out).mono ?_
  rintro e w7 ⟨rfl, rfl⟩
  rw [show k5.cwnd = 50 from rfl]
  go_wp2_with fail
  refine (thresh_calls _ k5 _ H6.out).mono ?_
  rintro e w7 ⟨rfl, rfl⟩
  rw [show k5.thresh = 40 from rfl]
  go_wp2
  go_ret
  exact ⟨rfl, b6⟩
end Go.Proofs.Ythafjgaleonbgaa.Window
