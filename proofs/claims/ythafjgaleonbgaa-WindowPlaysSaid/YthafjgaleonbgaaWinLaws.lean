/- The walks of the laws WindowNone and WindowRound of chapter 17. -/
import Derived.Test.YthafjgaleonbgaaWin
namespace Go.Proofs.Ythafjgaleonbgaa.Window
open Go.RowKit Go.OpenShut Go.Proofs.Ythafjgaleonbgaa.Aid
attribute [local go_sem] max_2 min_2 max2_i min2_i
def Yes (w : World) (e : Ending) (w' : World) : Prop := e = .returned (.bool true) ∧ Below w.heap.size w w'
theorem isslow_nil (w : World) : Calls Try.prog 25 #[.pointer none] w fun e w' => e = .returned (.bool false) ∧ ∃ n, w' = w.drewN n := by
  go_enter Try.func25, Try.ntmps25
  go_wp2
  go_quiet (fail)
  go_wp2
  go_ret
  exact ⟨rfl, _, rfl⟩
theorem grow_nil (n : Int) (w : World) : Calls Try.prog 17 #[.pointer none, .int .i64 n] w fun e w' => e = .returned (.tuple #[]) ∧ w = w' := by
  go_enter Try.func17, Try.ntmps17
  go_wp2
  refine bodyPost_ret (results_none rfl _ _ _) rfl ?_
  exact ⟨rfl, rfl⟩
theorem set_nil (n : Int) (w : World) : Calls Try.prog 26 #[.pointer none, .int .i64 n] w fun e w' => e = .returned (.tuple #[]) ∧ w = w' := by
  go_enter Try.func26, Try.ntmps26
  go_wp2
  go_end0
  exact ⟨rfl, rfl⟩
theorem collapse_nil (w : World) : Calls Try.prog 27 #[.pointer none] w fun e w' => e = .returned (.tuple #[]) ∧ w = w' := by
  go_enter Try.func27, Try.ntmps27
  go_wp2
  go_end0
  exact ⟨rfl, rfl⟩
theorem lift_nil (n m : Int) (w : World) : Calls Try.prog 21 #[.pointer none, .int .i64 n, .int .i64 m] w fun e w' => e = .returned (.tuple #[]) ∧ w = w' := by
  go_enter Try.func21, Try.ntmps21
  go_wp2
  go_end0
  exact ⟨rfl, rfl⟩
set_option maxRecDepth 100000 in
theorem none_walk (n : Int) (w : World) : Calls Try.prog 6 #[.int .i64 n] w (Yes w) := by
  go_enter Try.func6, Try.ntmps6
  go_wp2_with fail
  refine (known_calls _).mono ?_
  rintro e w1 ⟨rfl, b1⟩
  go_wp2_with (first | (go_at_call 25; refine (isslow_nil _).mono ?_; rintro e w3 ⟨rfl, n3, rfl⟩) | (go_at_call 17; refine (grow_nil _ _).mono ?_; rintro e w3 ⟨rfl, rfl⟩) | (go_at_call 26; refine (set_nil _ _).mono ?_; rintro e w3 ⟨rfl, rfl⟩) | (go_at_call 27; refine (collapse_nil _).mono ?_; rintro e w3 ⟨rfl, rfl⟩) | (go_at_call 21; refine (lift_nil _ _ _).mono ?_; rintro e w3 ⟨rfl, rfl⟩) | (go_at_call 14; refine (known_calls _).mono ?_; rintro e w2 ⟨rfl, b2⟩) | go_in)
  go_ret
  exact ⟨rfl, below_then (below_drewN b1 _) b1.size b2⟩
/-- One call of Grow beyond the threshold: the count goes up, till it is the window. -/
theorem grow_round (m s t n : Int) (_hm : 1 ≤ m) (_hm2 : m ≤ 2048) (hs : 2 * m ≤ s) (hs2 : s ≤ 69631) (ht : 0 ≤ t) (htn : t < s) (hn : 0 ≤ n) (hns : n ≤ s - t) :
    grow ⟨m, 1048576, s, 2 * m, t⟩ n = if t + n = s then ⟨m, 1048576, s + m, 2 * m, 0⟩ else ⟨m, 1048576, s, 2 * m, t + n⟩ := by
  unfold grow
  by_cases h1 : n < 1
  · rw [if_pos h1, if_neg (by omega), show t + n = t from by omega]
  · rw [if_neg h1]
    have e : grow0 ⟨m, 1048576, s, 2 * m, t⟩ n = careful ⟨m, 1048576, s, 2 * m, t⟩ n := by rw [grow0, if_neg (by simp only; omega)]
    rw [e]
    by_cases h2 : t + n = s
    · rw [if_pos h2, careful, if_pos (by simp only; omega)]
      simp only [Win.mk.injEq, true_and]
      omega
    · rw [if_neg h2, careful, if_neg (by simp only; omega)]
      simp only [Win.mk.injEq, true_and]
      omega
set_option maxRecDepth 100000 in
set_option maxHeartbeats 4000000 in
theorem round_walk (a b : Int) (A : Option Addr) (c : Nat) (xs : List Int) (w : World) (ha : 0 ≤ a ∧ a ≤ 65535) (hb : 0 ≤ b ∧ b ≤ 65535) (hn : xs.length ≤ maxLen)
    (hw : ∀ x ∈ xs, 0 ≤ x ∧ x ≤ 65535) (hr : Reps w A 1 (fun x => [.int .u16 x]) xs) :
    Calls Try.prog 3 #[.int .u16 a, .int .u16 b, .slice A xs.length c] w (Yes w) := by
  unfold maxLen at hn
  obtain ⟨a0, a1⟩ := ha
  obtain ⟨b0, b1⟩ := hb
  have R := Lib.hid hr
  have HW := Lib.hid hw
  clear hr hw
  go_enter Try.func3, Try.ntmps3
  go_wp2_with fail
  refine (known_calls _).mono ?_
  rintro e w1 ⟨rfl, k1⟩
  go_wp2_with fail
  refine (new_ok _ _ _ _ (by unfold Right; omega)).mono ?_
  rintro e w2 ⟨rfl, e2, k2, s2⟩
  have k3 := below_then k1 k1.size k2
  have hg := k1.size
  have m1 : 1 ≤ 1 + a % 2048 := by omega
  have m2 : 1 + a % 2048 ≤ 2048 := by omega
  have s1 : 2 * (1 + a % 2048) ≤ 2 * (1 + a % 2048) + b := by omega
  have s3 : 2 * (1 + a % 2048) + b ≤ 69631 := by omega
  generalize 2 * (1 + a % 2048) + b = s at *
  generalize 1 + a % 2048 = m at *
  have E2 := Lib.hid e2
  generalize w1.heap.size = g at *
  clear e2 k1 k2
  have o2 : Ok ⟨m, 1048576, s, 1048576, 0⟩ := by simp only [Ok]; omega
  go_wp2_with fail
  refine (cut_calls _ _ _ _ E2.out o2).mono ?_
  rintro e w3 ⟨rfl, e3, g3⟩
  have k4 := below_grown k3 k3.size g3 hg
  have c3 : cut ⟨m, 1048576, s, 1048576, 0⟩ 0 = ⟨m, 1048576, s, 2 * m, 0⟩ := by
    simp only [cut, Win.mk.injEq, true_and, and_true]
    omega
  rw [c3] at e3 ⊢
  have E3 : Hid (IsWin w3 g ⟨m, 1048576, s, 2 * m, 0⟩) := Lib.hid e3
  clear e3 E2 c3 g3 k3 o2
  go_wp2_with fail
  go_loopw [11, 12] (fun t i wr => ∃ (k : Nat) (x : Int), k ≤ xs.length ∧ k ≤ 200 ∧ t = .int .i64 x ∧ i = .int .i64 k ∧ 0 ≤ x ∧ x < s ∧ Hid (IsWin wr g ⟨m, 1048576, s, 2 * m, x⟩) ∧ Below w.heap.size w wr) (fun _ i _ => 200 - (intOf i).toNat)
  case atStart => exact ⟨0, 0, by omega, by omega, rfl, rfl, by omega, by omega, E3, k4⟩
  case round =>
    obtain ⟨k, x, hk, hk2, rfl, rfl, hx0, hx1, hE, hB⟩ := hrel
    have ho : Ok ⟨m, 1048576, s, 2 * m, x⟩ := by simp only [Ok]; omega
    have fin : ∀ (n : Int), n = s - x → grow ⟨m, 1048576, s, 2 * m, x⟩ n = ⟨m, 1048576, s + m, 2 * m, 0⟩ := by
      intro n hn
      rw [grow_round m s x n m1 m2 s1 s3 hx0 hx1 (by omega) (by omega), if_pos (by omega)]
    by_cases hlt : k < xs.length
    · by_cases hlt2 : k < 200
      · obtain ⟨y, hy⟩ : ∃ y, xs[k]? = some y := ⟨_, List.getElem?_eq_getElem hlt⟩
        obtain ⟨ad, rfl, hl, hc⟩ := (R.out.below hB) k y hy
        obtain ⟨y0, y1⟩ := HW.out y (List.mem_of_getElem? hy)
        have c0 : wr.cell? (ad.add k) = some (.int .u16 y) := by have := hc 0 _ rfl; simpa using this
        clear hc hy
        have gr := grow_round m s x (min y (s - x)) m1 m2 s1 s3 hx0 hx1 (by omega) (by omega)
        have GR := Lib.hid gr
        clear gr fin
        go_wp2_with fail
        refine (grow_calls _ _ _ _ hE.out ho).mono ?_
        rintro e w5 ⟨rfl, e5, g5⟩
        rw [GR.out] at e5
        have B5 := below_grown hB hB.size g5 hg
        clear g5 hE GR
        by_cases hc : x + min y (s - x) = s
        · rw [if_pos hc] at e5
          have E5 := Lib.hid e5
          clear e5
          go_wp2_with fail
          refine (cwnd_calls _ _ _ E5.out).mono ?_
          rintro e w6 ⟨rfl, rfl⟩
          go_wp2_with (first | (go_at_call 14; refine (known_calls _).mono ?_; rintro e w7 ⟨rfl, b7⟩))
          go_ret
          exact ⟨rfl, below_then B5 B5.size b7⟩
        · rw [if_neg hc] at e5
          have E5 := Lib.hid e5
          clear e5
          go_wp2_with fail
          refine (cwnd_calls _ _ _ E5.out).mono ?_
          rintro e w6 ⟨rfl, rfl⟩
          go_wp2
          go_roundw
          case rel => exact ⟨k + 1, _, by omega, by omega, rfl, by go_num, by omega, by omega, E5, B5⟩
          case measure => simp [intOf]; omega
      · go_wp2_with fail
        refine (grow_calls _ _ _ _ hE.out ho).mono ?_
        rintro e w5 ⟨rfl, e5, g5⟩
        rw [fin _ rfl] at e5
        have B5 := below_grown hB hB.size g5 hg
        have E5 := Lib.hid e5
        clear g5 hE e5 fin
        go_wp2_with fail
        refine (cwnd_calls _ _ _ E5.out).mono ?_
        rintro e w6 ⟨rfl, rfl⟩
        go_wp2_with (first | (go_at_call 14; refine (known_calls _).mono ?_; rintro e w7 ⟨rfl, b7⟩))
        go_ret
        exact ⟨rfl, below_then B5 B5.size b7⟩
    · go_wp2_with fail
      refine (grow_calls _ _ _ _ hE.out ho).mono ?_
      rintro e w5 ⟨rfl, e5, g5⟩
      rw [fin _ rfl] at e5
      have B5 := below_grown hB hB.size g5 hg
      have E5 := Lib.hid e5
      clear g5 hE e5 fin
      go_wp2_with fail
      refine (cwnd_calls _ _ _ E5.out).mono ?_
      rintro e w6 ⟨rfl, rfl⟩
      go_wp2_with (first | (go_at_call 14; refine (known_calls _).mono ?_; rintro e w7 ⟨rfl, b7⟩))
      go_ret
      exact ⟨rfl, below_then B5 B5.size b7⟩
end Go.Proofs.Ythafjgaleonbgaa.Window
