/- The document's own functions of chapter 11 (ref11), and how an estimate is held against the document's. -/
import Derived.Test.YthafjgaleonbgaaRttLaws
import Derived.Test.YthafjgaleonbgaaRegrown
import Derived.Deep.DeepCutAuto
namespace Go.Proofs.Ythafjgaleonbgaa.Rtt
open Go.RowKit Go.OpenShut Go.Proofs.Ythafjgaleonbgaa.Aid
attribute [local go_sem] max_2 min_2 max2_i min2_i
def rcells (s : Est) : Array Value := #[.int .i64 s.least, .int .i64 s.most, .int .i64 s.srtt, .int .i64 s.vary, .bool s.has, .int .i64 s.doubled]
def six (s : Est) : Value := .agg #[.int .i64 s.least, .int .i64 s.most, .int .i64 s.srtt, .int .i64 s.vary, .bool s.has, .int .i64 s.doubled]
def RefGives (w : World) (v : Value) (e : Ending) (w' : World) : Prop := e = .returned v ∧ Below w.heap.size w w'
def rdbl (most : Int) : Nat → Int → Int
  | 0, t => t
  | n + 1, t => if t < most then rdbl most n (2 * t) else t
theorem min_rdbl (most : Int) : ∀ (n : Nat) (t : Int), 0 ≤ t → min (rdbl most n t) most = dbl most n (min t most) := by
  intro n
  induction n with
  | zero => intro t _; rfl
  | succ n ih =>
    intro t h
    unfold rdbl dbl
    by_cases c : t < most
    · rw [if_pos c, if_pos (by omega), ih (2 * t) (by omega)]
      congr 1; omega
    · rw [if_neg c, if_neg (by omega)]
def rplain (s : Est) : Int := max (if s.has = true then s.srtt + max (4 * s.vary) 1 else 1000000) s.least
theorem rplain_bd (s : Est) (ho : Ok s) : 1 ≤ rplain s ∧ rplain s ≤ 343597383680 := by
  unfold rplain
  unfold Ok at ho
  split <;> omega
theorem rto_ref (s : Est) (ho : Ok s) : rto s = min (rdbl s.most s.doubled.toNat (rplain s)) s.most := by
  rw [min_rdbl _ _ _ (by have := rplain_bd s ho; omega)]
  unfold rto
  congr 1
  unfold plain rplain
  split <;> omega
theorem rdbl_bd (most : Int) (hm : most ≤ 68719476736) : ∀ (n : Nat) (t : Int), 0 ≤ t → t ≤ 343597383680 → 0 ≤ rdbl most n t ∧ rdbl most n t ≤ 343597383680 := by
  intro n
  induction n with
  | zero => intro t h1 h2; exact ⟨h1, h2⟩
  | succ n ih =>
    intro t h1 h2
    unfold rdbl
    split
    · exact ih _ (by omega) (by omega)
    · exact ⟨h1, h2⟩
set_option maxHeartbeats 2000000 in
theorem ref_rto (s : Est) (w : World) (ho : Ok s) : Calls Try.prog 60 #[.agg #[.int .i64 s.least, .int .i64 s.most, .int .i64 s.srtt, .int .i64 s.vary, .bool s.has, .int .i64 s.doubled]] w (RefGives w (.int .i64 (rto s))) := by
  have hr := rto_ref s ho
  have hp := rplain_bd s ho
  obtain ⟨q, hq⟩ : ∃ q, q = rto s := ⟨_, rfl⟩
  rw [← hq] at hr
  rw [← hq]
  clear hq
  have e0 : rplain s = max (if s.has = true then s.srtt + max (4 * s.vary) 1 else 1000000) s.least := rfl
  obtain ⟨least, most, srtt, vary, has, doubled, rise⟩ := s
  obtain ⟨o1, o2, o3, o4, o5, o6, o7, o8, o9⟩ := ho
  simp only at *
  generalize rplain ⟨least, most, srtt, vary, has, doubled, rise⟩ = p at *
  obtain ⟨d, rfl⟩ := Int.eq_ofNat_of_zero_le o8
  simp only [Int.toNat_natCast] at hr
  have HR := Lib.hid hr
  clear hr
  cases has with
  | false =>
    simp only [Bool.false_eq_true, if_false] at e0
    by_cases c : (1000000 : Int) < least
    · obtain rfl : p = least := by omega
      clear e0
      go_enter Try.func60, Try.ntmps60
      go_wp2
      go_loop [3, 4] (fun t i => ∃ (k : Nat) (x : Int), k ≤ d ∧ i = .int .i64 k ∧ t = .int .i64 x ∧ 1 ≤ x ∧ x ≤ 343597383680 ∧ q = min (rdbl most (d - k) x) most) (fun _ i => d - (intOf i).toNat)
      case atStart => exact ⟨0, p, by omega, rfl, rfl, by omega, by omega, HR.out⟩
      case round =>
        obtain ⟨k, x, hk, rfl, rfl, hx1, hx2, hq⟩ := hrel
        have HQ := Lib.hid hq
        clear hq
        by_cases h1 : k < d
        · by_cases h2 : x < most
          · go_wp2
            go_round
            case rel => exact ⟨k + 1, 2 * x, by omega, by go_num, rfl, by omega, by omega, by rw [HQ.out, show d - k = d - (k + 1) + 1 from by omega, rdbl, if_pos h2]⟩
            case measure => simp [intOf]; omega
          · go_wp2
            go_ret
            exact ⟨ret_int (by rw [HQ.out, show d - k = d - (k + 1) + 1 from by omega, rdbl, if_neg (by omega)]), (Below.refl _ w).alloc (Nat.le_refl _) _⟩
        · go_wp2
          go_ret
          exact ⟨ret_int (by rw [HQ.out, show d - k = 0 from by omega, rdbl]), (Below.refl _ w).alloc (Nat.le_refl _) _⟩
    · obtain rfl : p = 1000000 := by omega
      clear e0
      go_enter Try.func60, Try.ntmps60
      go_wp2
      go_loop [3, 4] (fun t i => ∃ (k : Nat) (x : Int), k ≤ d ∧ i = .int .i64 k ∧ t = .int .i64 x ∧ 1 ≤ x ∧ x ≤ 343597383680 ∧ q = min (rdbl most (d - k) x) most) (fun _ i => d - (intOf i).toNat)
      case atStart => exact ⟨0, 1000000, by omega, rfl, rfl, by omega, by omega, HR.out⟩
      case round =>
        obtain ⟨k, x, hk, rfl, rfl, hx1, hx2, hq⟩ := hrel
        have HQ := Lib.hid hq
        clear hq
        by_cases h1 : k < d
        · by_cases h2 : x < most
          · go_wp2
            go_round
            case rel => exact ⟨k + 1, 2 * x, by omega, by go_num, rfl, by omega, by omega, by rw [HQ.out, show d - k = d - (k + 1) + 1 from by omega, rdbl, if_pos h2]⟩
            case measure => simp [intOf]; omega
          · go_wp2
            go_ret
            exact ⟨ret_int (by rw [HQ.out, show d - k = d - (k + 1) + 1 from by omega, rdbl, if_neg (by omega)]), (Below.refl _ w).alloc (Nat.le_refl _) _⟩
        · go_wp2
          go_ret
          exact ⟨ret_int (by rw [HQ.out, show d - k = 0 from by omega, rdbl]), (Below.refl _ w).alloc (Nat.le_refl _) _⟩
  | true =>
    simp only [if_true] at e0
    by_cases c : srtt + max (4 * vary) 1 < least
    · obtain rfl : p = least := by omega
      clear e0
      go_enter Try.func60, Try.ntmps60
      go_wp2
      go_loop [3, 4] (fun t i => ∃ (k : Nat) (x : Int), k ≤ d ∧ i = .int .i64 k ∧ t = .int .i64 x ∧ 1 ≤ x ∧ x ≤ 343597383680 ∧ q = min (rdbl most (d - k) x) most) (fun _ i => d - (intOf i).toNat)
      case atStart => exact ⟨0, p, by omega, rfl, rfl, by omega, by omega, HR.out⟩
      case round =>
        obtain ⟨k, x, hk, rfl, rfl, hx1, hx2, hq⟩ := hrel
        have HQ := Lib.hid hq
        clear hq
        by_cases h1 : k < d
        · by_cases h2 : x < most
          · go_wp2
            go_round
            case rel => exact ⟨k + 1, 2 * x, by omega, by go_num, rfl, by omega, by omega, by rw [HQ.out, show d - k = d - (k + 1) + 1 from by omega, rdbl, if_pos h2]⟩
            case measure => simp [intOf]; omega
          · go_wp2
            go_ret
            exact ⟨ret_int (by rw [HQ.out, show d - k = d - (k + 1) + 1 from by omega, rdbl, if_neg (by omega)]), (Below.refl _ w).alloc (Nat.le_refl _) _⟩
        · go_wp2
          go_ret
          exact ⟨ret_int (by rw [HQ.out, show d - k = 0 from by omega, rdbl]), (Below.refl _ w).alloc (Nat.le_refl _) _⟩
    · have E0 : Hid (p = srtt + max (4 * vary) 1) := Lib.hid (by omega)
      have hp3 : srtt + max (4 * vary) 1 ≤ 343597383680 := by omega
      clear e0
      go_enter Try.func60, Try.ntmps60
      go_wp2
      go_loop [3, 4] (fun t i => ∃ (k : Nat) (x : Int), k ≤ d ∧ i = .int .i64 k ∧ t = .int .i64 x ∧ 1 ≤ x ∧ x ≤ 343597383680 ∧ q = min (rdbl most (d - k) x) most) (fun _ i => d - (intOf i).toNat)
      case atStart => exact ⟨0, _, by omega, rfl, rfl, by omega, by omega, by rw [← E0.out]; exact HR.out⟩
      case round =>
        obtain ⟨k, x, hk, rfl, rfl, hx1, hx2, hq⟩ := hrel
        have HQ := Lib.hid hq
        clear hq
        by_cases h1 : k < d
        · by_cases h2 : x < most
          · go_wp2
            go_round
            case rel => exact ⟨k + 1, 2 * x, by omega, by go_num, rfl, by omega, by omega, by rw [HQ.out, show d - k = d - (k + 1) + 1 from by omega, rdbl, if_pos h2]⟩
            case measure => simp [intOf]; omega
          · go_wp2
            go_ret
            exact ⟨ret_int (by rw [HQ.out, show d - k = d - (k + 1) + 1 from by omega, rdbl, if_neg (by omega)]), (Below.refl _ w).alloc (Nat.le_refl _) _⟩
        · go_wp2
          go_ret
          exact ⟨ret_int (by rw [HQ.out, show d - k = 0 from by omega, rdbl]), (Below.refl _ w).alloc (Nat.le_refl _) _⟩
theorem two_boxes (w : World) (o1 o2 : Obj) : Below w.heap.size w ((w.alloc o1).alloc o2) := ((Below.refl _ w).alloc (Nat.le_refl _) _).alloc (by simp) _
set_option maxHeartbeats 2000000 in
theorem ref_sample (s : Est) (r : Int) (w : World) (ho : Ok s) (h0 : 0 ≤ r) (h1 : r ≤ 68719476736) : Calls Try.prog 39 #[.agg #[.int .i64 s.least, .int .i64 s.most, .int .i64 s.srtt, .int .i64 s.vary, .bool s.has, .int .i64 s.doubled], .int .i64 r] w (RefGives w (six (sample s r).1)) := by
  obtain ⟨least, most, srtt, vary, has, doubled, rise⟩ := s
  obtain ⟨o1, o2, o3, o4, o5, o6, o7, o8, o9⟩ := ho
  simp only at *
  cases has with
  | false =>
    rw [sample, if_neg (by omega), if_pos rfl]
    by_cases c : srtt - r < 0
    · go_enter Try.func39, Try.ntmps39
      go_wp2
      refine bodyPost_ret (v := six ⟨least, most, r, r / 2, true, 0, rise⟩) (by simp [results, Try.results39, go_sem, six]) rfl ⟨rfl, ?_⟩
      exact two_boxes w _ _
    · go_enter Try.func39, Try.ntmps39
      go_wp2
      refine bodyPost_ret (v := six ⟨least, most, r, r / 2, true, 0, rise⟩) (by simp [results, Try.results39, go_sem, six]) rfl ⟨rfl, ?_⟩
      exact two_boxes w _ _
  | true =>
    rw [sample, if_neg (by omega), if_neg (by simp)]
    by_cases c : srtt - r < 0
    · have e : max (srtt - r) (r - srtt) = r - srtt := by omega
      simp only [e]
      clear e
      go_enter Try.func39, Try.ntmps39
      go_wp2
      refine bodyPost_ret (v := six ⟨least, most, (7 * srtt + r) / 8, (3 * vary + (r - srtt)) / 4, true, 0, rise⟩) (by simp [results, Try.results39, go_sem, six]) rfl ⟨rfl, ?_⟩
      exact two_boxes w _ _
    · have e : max (srtt - r) (r - srtt) = srtt - r := by omega
      simp only [e]
      clear e
      go_enter Try.func39, Try.ntmps39
      go_wp2
      refine bodyPost_ret (v := six ⟨least, most, (7 * srtt + r) / 8, (3 * vary + (srtt - r)) / 4, true, 0, rise⟩) (by simp [results, Try.results39, go_sem, six]) rfl ⟨rfl, ?_⟩
      exact two_boxes w _ _
end Go.Proofs.Ythafjgaleonbgaa.Rtt
