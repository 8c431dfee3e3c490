/- The walk of RttSteady: behind a hundred and one samples of one time that time is the smoothed one, nothing varies, and the wait doubles up to the most. -/
import Derived.Test.YthafjgaleonbgaaRttLaws
namespace Go.Proofs.Ythafjgaleonbgaa.Rtt
open Go.RowKit Go.OpenShut Go.Proofs.Ythafjgaleonbgaa.Aid
attribute [local go_sem] max_2 min_2 max2_i min2_i
/-- How much may vary behind so many samples more. -/
def vb : Nat → Int
  | 0 => 34359738368
  | n + 1 => 3 * vb n / 4
theorem vb_end : vb 100 = 0 := by decide +kernel
def Steady (least most r : Int) (k : Nat) (s : Est) : Prop :=
  s.least = least ∧ s.most = most ∧ Ok s ∧ s.doubled = 0 ∧ (k = 0 → s.has = false) ∧ (0 < k → s.has = true ∧ s.srtt = r ∧ s.vary ≤ vb (k - 1))
theorem steady_next {least most r : Int} {k : Nat} {s : Est} (h : Steady least most r k s) (h0 : 0 ≤ r) (hr : r ≤ 68719476736) : (sample s r).2 = 0 ∧ Steady least most r (k + 1) (sample s r).1 := by
  obtain ⟨h1, h2, ⟨o1, o2, o3, o4, o5, o6, o7, o8, o9⟩, h4, h5, h6⟩ := h
  rw [sample, if_neg (by omega)]
  rcases Nat.eq_zero_or_pos k with hk | hk
  · rw [if_pos (h5 hk)]
    subst hk
    exact ⟨rfl, h1, h2, ⟨o1, o2, o3, h0, hr, by simp only; omega, by simp only; omega, by simp only; omega, by simp only; omega⟩, rfl, by omega, fun _ => ⟨rfl, rfl, by show r / 2 ≤ vb 0; simp only [vb]; omega⟩⟩
  · obtain ⟨e1, e2, e3⟩ := h6 hk
    rw [if_neg (by rw [e1]; decide)]
    obtain ⟨j, rfl⟩ : ∃ j, k = j + 1 := ⟨k - 1, by omega⟩
    simp only [Nat.add_sub_cancel] at e3
    refine ⟨rfl, h1, h2, ⟨o1, o2, o3, ?_, ?_, ?_, ?_, by simp only; omega, by simp only; omega⟩, rfl, by omega, fun _ => ⟨e1, ?_, ?_⟩⟩
    · simp only; omega
    · simp only; omega
    · simp only; omega
    · simp only; omega
    · simp only [e2]; omega
    · simp only [e2, Nat.add_sub_cancel, vb]; omega
theorem dbl_last (most : Int) : ∀ (n : Nat) (t : Int), 1 ≤ t → t ≤ most → dbl most (n + 1) t = min (2 * dbl most n t) most := by
  intro n
  induction n with
  | zero => intro t h1 h2; simp only [dbl]; split <;> omega
  | succ n ih =>
    intro t h1 h2
    rw [dbl]
    by_cases h : t < most
    · rw [if_pos h, ih _ (by omega) (by omega)]
      conv => rhs; rw [dbl]
      rw [if_pos h]
    · rw [if_neg h]
      conv => rhs; rw [dbl]
      rw [if_neg h]
      omega
theorem rto_back (s : Est) (ho : Ok s) : rto (backoff s).1 = min (2 * rto s) s.most := by
  have hb := rto_bd s ho
  have hp := plain_bd s ho
  obtain ⟨o1, o2, o3, o4, o5, o6, o7, o8, o9⟩ := ho
  unfold backoff
  split
  · simp only; omega
  · have e : (s.doubled + 1).toNat = s.doubled.toNat + 1 := by omega
    show dbl s.most (s.doubled + 1).toNat (plain s) = _
    rw [e, dbl_last _ _ _ (by omega) (by omega)]
    rfl
theorem rto_steady {least most r : Int} {s : Est} (h : Steady least most r 101 s) : s.srtt = r ∧ s.vary = 0 ∧ rto s = min (max (r + 1) least) most := by
  obtain ⟨h1, h2, ho, h4, h5, h6⟩ := h
  obtain ⟨e1, e2, e3⟩ := h6 (by omega)
  rw [show 101 - 1 = 100 from rfl, vb_end] at e3
  have hv : s.vary = 0 := by have := ho.2.2.2.2.2.1; omega
  refine ⟨e2, hv, ?_⟩
  unfold rto plain
  rw [h4, e1, e2, hv, h1, h2]
  simp [dbl, show max (1 : Int) 0 = 1 from rfl]
def Back (least most : Int) (k : Nat) (s : Est) : Prop := s.least = least ∧ s.most = most ∧ Ok s ∧ s.doubled ≤ k
theorem back_next {least most : Int} {k : Nat} {s : Est} (h : Back least most k s) (hk : k < 70) : Back least most (k + 1) (backoff s).1 ∧ rto (backoff s).1 = min (2 * rto s) most := by
  obtain ⟨h1, h2, h3, h4⟩ := h
  refine ⟨?_, by rw [rto_back s h3, h2]⟩
  unfold backoff
  split
  · exact ⟨h1, h2, h3, by simp only; omega⟩
  · obtain ⟨o1, o2, o3, o4, o5, o6, o7, o8, o9⟩ := h3
    exact ⟨h1, h2, ⟨o1, o2, o3, o4, o5, o6, o7, by simp only; omega, by simp only; omega⟩, by simp only; omega⟩
set_option maxRecDepth 100000 in
set_option maxHeartbeats 4000000 in
theorem steady_walk (least most r d : Int) (w : World) (hd : 0 ≤ d ∧ d ≤ 255) :
    Calls Try.prog 8 #[.int .i64 least, .int .i64 most, .int .i64 r, .int .u8 d] w (Yes w) := by
  obtain ⟨d0, d1⟩ := hd
  by_cases h0 : least < 1 ∨ most > 68719476736 ∨ least > most
  · go_enter Try.func8, Try.ntmps8
    go_wp2_with fail
    refine (known_calls _).mono ?_
    rintro e w1 ⟨rfl, b1⟩
    go_wp2_with fail
    refine (new_bad _ _ _ h0).mono ?_
    rintro e w2 ⟨rfl, rfl⟩
    go_wp2_with (first | (go_at_call 28; refine (known_calls _).mono ?_; rintro e w2 ⟨rfl, b2⟩))
    go_ret
    exact ⟨rfl, below_then b1 b1.size b2⟩
  · have h1 : ¬ least < 1 := by omega
    have h2 : ¬ most > 68719476736 := by omega
    have h3 : ¬ least > most := by omega
    clear h0
    by_cases hr : r < 0 ∨ r > 68719476736
    · have hc : r < 0 ∨ (¬ r < 0 ∧ r > 68719476736) := by omega
      clear hr
      rcases hc with hr | ⟨hr1, hr⟩
      all_goals
        go_enter Try.func8, Try.ntmps8
        go_wp2_with fail
        refine (known_calls _).mono ?_
        rintro e w1 ⟨rfl, b1⟩
        go_wp2_with fail
        refine (new_ok _ _ _ (by omega) (by omega) (by omega)).mono ?_
        rintro e w2 ⟨rfl, e2, b2, s2⟩
        have b3 := below_then b1 b1.size b2
        clear e2
        go_wp2_with (first | (go_at_call 28; refine (known_calls _).mono ?_; rintro e w4 ⟨rfl, b4⟩))
        go_ret
        exact ⟨rfl, below_then b3 b3.size b4⟩
    · have r1 : 0 ≤ r := by omega
      have r2 : r ≤ 68719476736 := by omega
      clear hr
      go_enter Try.func8, Try.ntmps8
      go_wp2_with fail
      refine (known_calls _).mono ?_
      rintro e w1 ⟨rfl, b1⟩
      go_wp2_with fail
      refine (new_ok _ _ _ (by omega) (by omega) (by omega)).mono ?_
      rintro e w2 ⟨rfl, e2, b2, s2⟩
      have E2 := Lib.hid e2
      have b3 := below_then b1 b1.size b2
      have hg := b1.size
      have I0 : Hid (Steady least most r 0 ⟨least, most, 0, 0, false, 0, 0⟩) := Lib.hid ⟨rfl, rfl, by simp only [Ok]; omega, rfl, fun _ => rfl, by omega⟩
      generalize w1.heap.size = g at *
      clear e2 b1 b2 w1
      go_wp2_with fail
      go_loopw [11] (fun i wr => ∃ (k : Nat) (s : Est), k ≤ 101 ∧ i = .int .i64 k ∧ Hid (IsEst wr g s) ∧ Hid (Steady least most r k s) ∧ Below w.heap.size w wr) (fun i _ => 101 - (intOf i).toNat)
      case atStart => exact ⟨0, _, by omega, rfl, E2, I0, b3⟩
      case round =>
        obtain ⟨k, s, hk, rfl, hE, hI, hB⟩ := hrel
        by_cases hlt : k < 101
        · go_wp2_with fail
          refine (sample_calls g s _ _ hE.out hI.out.2.2.1).mono ?_
          rintro e w4 ⟨rfl, e4, g4⟩
          have B4 : Below w.heap.size w w4 := below_grown hB hB.size g4 hg
          obtain ⟨a4, I4⟩ := steady_next hI.out r1 r2
          rw [a4]
          have J4 := Lib.hid I4
          have E4 : Hid (IsEst w4 g (sample s r).1) := Lib.hid e4
          clear hI hE a4 I4 e4
          go_wp2
          go_roundw
          case rel => exact ⟨k + 1, _, by omega, by go_num, E4, J4, B4⟩
          case measure => simp [intOf]; omega
        · obtain rfl : k = 101 := by omega
          obtain ⟨v1, v2, v3⟩ := rto_steady hI.out
          have ho : Ok s := hI.out.2.2.1
          have K0 : Hid (Back least most 0 s) := Lib.hid ⟨hI.out.1, hI.out.2.1, ho, by rw [hI.out.2.2.2.1]; omega⟩
          have V1 := Lib.hid v1
          have V2 := Lib.hid v2
          have V3 := Lib.hid v3
          clear hI v1 v2 v3
          go_wp2_with fail
          refine (srtt_calls g s _ hE.out).mono ?_
          rintro e w7 ⟨rfl, rfl⟩
          rw [V1.out]
          go_wp2_with fail
          refine (var_calls g s _ hE.out).mono ?_
          rintro e w7 ⟨rfl, rfl⟩
          rw [V2.out]
          go_wp2_with fail
          refine (rto_calls g s _ hE.out ho).mono ?_
          rintro e w7 ⟨rfl, n7, rfl⟩
          rw [V3.out]
          have v3 := V3.out
          generalize min (max (r + 1) least) most = q at *
          have Q3 : Hid (rto s = q) := Lib.hid v3
          have E7 : Hid (IsEst (wr.drewN n7) g s) := Lib.hid (hE.out.drewN _)
          have B7 := below_drewN hB n7
          generalize wr.drewN n7 = w7 at *
          clear v3 V1 V2 V3 hE hB ho
          go_wp2_with fail
          go_loopw [12, 13] (fun t i wr => ∃ (k : Nat) (s : Est) (q : Int), (k : Int) ≤ d % 70 ∧ i = .int .i64 k ∧ t = .int .i64 q ∧ Hid (rto s = q) ∧ Hid (IsEst wr g s) ∧ Hid (Back least most k s) ∧ Below w.heap.size w wr) (fun _ i _ => 70 - (intOf i).toNat)
          case atStart => exact ⟨0, s, q, by omega, rfl, rfl, Q3, E7, K0, B7⟩
          case round =>
            obtain ⟨k, s, q, hk, rfl, rfl, hQ, hE, hK, hB⟩ := hrel
            have hq1 : 1 ≤ q := by rw [← hQ.out]; have := (rto_bd s hK.out.2.2.1).1; have := hK.out.2.2.1.1; omega
            have hq2 : q ≤ most := by rw [← hQ.out]; have := (rto_bd s hK.out.2.2.1).2; rw [hK.out.2.1] at this; exact this
            by_cases hlt : (k : Int) < d % 70
            · go_wp2_with fail
              refine (backoff_calls g s _ hE.out hK.out.2.2.1).mono ?_
              rintro e w4 ⟨rfl, e4, g4⟩
              have B4 : Below w.heap.size w w4 := below_grown hB hB.size g4 hg
              obtain ⟨K4, q4⟩ := back_next hK.out (by omega)
              rw [hQ.out] at q4
              have o4 : Ok (backoff s).1 := K4.2.2.1
              have L4 := Lib.hid K4
              have Q4 := Lib.hid q4
              have E4 : Hid (IsEst w4 g (backoff s).1) := Lib.hid e4
              clear hK hE hQ K4 q4 e4
              go_wp2_with fail
              refine (rto_calls g _ _ E4.out o4).mono ?_
              rintro e w5 ⟨rfl, n5, rfl⟩
              rw [Q4.out]
              go_wp2
              go_roundw
              case rel => exact ⟨k + 1, _, _, by omega, by go_num, rfl, Q4, Lib.hid (E4.out.drewN _), L4, below_drewN B4 _⟩
              case measure => simp [intOf]; omega
            · go_wp2_with (first | (go_at_call 28; refine (known_calls _).mono ?_; rintro e w8 ⟨rfl, b8⟩))
              go_ret
              exact ⟨rfl, below_then hB hB.size b8⟩
end Go.Proofs.Ythafjgaleonbgaa.Rtt
