import Derived.Test.YthafjgaleonbgaaProg
import Derived.Test.YthafjgaleonbgaaAid
import Derived.WalkKit
import Derived.WalkSpells
import Derived.WalkLawsBesides
import Derived.RegionTactic
import Derived.ChangeAlike
import Derived.Deep.QuietTactic
import Derived.BigQuiet
import Derived.Deep.RegionHeld3
import Derived.Deep.DrawnRows
import Derived.OpenShut
import Derived.StillTailTactics
namespace Go.Proofs.Ythafjgaleonbgaa.Rtt
open Go.RowKit Go.OpenShut Go.Proofs.Ythafjgaleonbgaa.Aid
attribute [local go_sem] max_2 min_2 max2_i min2_i
structure Est where
  least : Int
  most : Int
  srtt : Int
  vary : Int
  has : Bool
  doubled : Int
  rise : Int
def cells (s : Est) : Array Value := #[.int .i64 s.least, .int .i64 s.most, .int .i64 s.srtt, .int .i64 s.vary, .bool s.has, .int .i64 s.doubled, .int .i64 s.rise]
def IsEst (w : World) (g : Nat) (s : Est) : Prop := Blk w g 83 (cells s)
theorem apart_calls (a b : Int) (w : World) (ha : 0 ≤ a ∧ a ≤ 68719476736) (hb : 0 ≤ b ∧ b ≤ 68719476736) :
    Calls Try.prog 58 #[.int .i64 a, .int .i64 b] w fun e w' => e = .returned (.int .i64 (max (a - b) (b - a))) ∧ w = w' := by
  obtain ⟨h1, h2⟩ := ha
  obtain ⟨h3, h4⟩ := hb
  go_enter Try.func58, Try.ntmps58
  go_wp2
  go_ret
  exact ⟨rfl, rfl⟩
def sample (s : Est) (r : Int) : Est × Int :=
  if r < 0 ∨ r > 68719476736 then (s, 3)
  else if s.has = false then ({ s with srtt := r, vary := r / 2, has := true, doubled := 0 }, 0)
  else ({ s with vary := (3 * s.vary + max (s.srtt - r) (r - s.srtt)) / 4, srtt := (7 * s.srtt + r) / 8, doubled := 0 }, 0)
def Ok (s : Est) : Prop := 1 ≤ s.least ∧ s.least ≤ s.most ∧ s.most ≤ 68719476736 ∧ 0 ≤ s.srtt ∧ s.srtt ≤ 68719476736 ∧ 0 ≤ s.vary ∧ s.vary ≤ 68719476736 ∧ 0 ≤ s.doubled ∧ s.doubled ≤ 1000000
/-- What a call leaves: its answer, the estimate in its block, and nothing else that was there is turned. -/
def Post (g : Nat) (w : World) (v : Value) (s : Est) (e : Ending) (w' : World) : Prop := e = .returned v ∧ IsEst w' g s ∧ w.grownBy w' (some g)
set_option maxHeartbeats 1000000 in
theorem sample_calls (g : Nat) (s : Est) (r : Int) (w : World) (hs : IsEst w g s) (ho : Ok s) :
    Calls Try.prog 31 #[.pointer (some ⟨g, 0, none⟩), .int .i64 r] w (Post g w (.int .i64 (sample s r).2) (sample s r).1) := by
  obtain ⟨least, most, srtt, vary, has, doubled, rise⟩ := s
  obtain ⟨o1, o2, o3, o4, o5, o6, o7, o8, o9⟩ := ho
  simp only at *
  have hf : ∀ i, w.frozen? ⟨g, i, none⟩ = false := hs.frozen
  have c2 : w.cell? ⟨g, 2, none⟩ = some (.int .i64 srtt) := hs.cell 2
  have c3 : w.cell? ⟨g, 3, none⟩ = some (.int .i64 vary) := hs.cell 3
  have c4 : w.cell? ⟨g, 4, none⟩ = some (.bool has) := hs.cell 4
  have c5 : w.cell? ⟨g, 5, none⟩ = some (.int .i64 doubled) := hs.cell 5
  have HS := Lib.hid hs
  clear hs
  by_cases h1 : r < 0
  · go_enter Try.func31, Try.ntmps31
    go_wp2
    go_ret
    rw [sample, if_pos (.inl h1)]
    exact ⟨rfl, HS.out, grown_refl _ _⟩
  · by_cases h2 : r > 68719476736
    · go_enter Try.func31, Try.ntmps31
      go_wp2
      go_ret
      rw [sample, if_pos (.inr h2)]
      exact ⟨rfl, HS.out, grown_refl _ _⟩
    · cases has with
      | false =>
        go_enter Try.func31, Try.ntmps31
        go_wp2
        go_ret
        rw [sample, if_neg (by omega), if_pos rfl]
        exact ⟨rfl, ((((HS.out.set_ 2 _).set_ 3 _).set_ 4 _).set_ 5 _).eq rfl, grown_set (grown_set (grown_set (grown_set (grown_refl _ _) _ _) _ _) _ _) _ _⟩
      | true =>
        go_enter Try.func31, Try.ntmps31
        go_wp2
        go_still_tail 16, (by kernel_rfl)
        still_call ((apart_calls _ _ _ ⟨by assumption, by assumption⟩ ⟨by omega, by omega⟩).mono fun e w' h => ⟨h.1, h.2.symm⟩)
        repeat still_step
        refine wpStill_nil ?_
        go_wp2
        go_ret
        rw [sample, if_neg (by omega), if_neg (by simp)]
        refine ⟨rfl, (((HS.out.drew.set_ 3 _).set_ 2 _).set_ 5 _).eq ?_, grown_set (grown_set (grown_set (grown_drew (grown_refl _ _)) _ _) _ _) _ _⟩
        simp [cells]
theorem facts {w : World} {g : Nat} {s : Est} (h : IsEst w g s) : (∀ i, w.frozen? ⟨g, i, none⟩ = false) ∧ w.cell? ⟨g, 0, none⟩ = some (.int .i64 s.least) ∧ w.cell? ⟨g, 1, none⟩ = some (.int .i64 s.most) ∧
    w.cell? ⟨g, 2, none⟩ = some (.int .i64 s.srtt) ∧ w.cell? ⟨g, 3, none⟩ = some (.int .i64 s.vary) ∧ w.cell? ⟨g, 4, none⟩ = some (.bool s.has) ∧ w.cell? ⟨g, 5, none⟩ = some (.int .i64 s.doubled) ∧ w.cell? ⟨g, 6, none⟩ = some (.int .i64 s.rise) :=
  ⟨h.frozen, h.cell 0, h.cell 1, h.cell 2, h.cell 3, h.cell 4, h.cell 5, h.cell 6⟩
theorem new_bad (a b : Int) (w : World) (h : a < 1 ∨ b > 68719476736 ∨ a > b) :
    Calls Try.prog 29 #[.int .i64 a, .int .i64 b] w fun e w' => e = .returned (.tuple #[.pointer none, .int .i64 2]) ∧ w = w' := by
  by_cases h1 : a < 1
  · go_enter Try.func29, Try.ntmps29
    go_wp2
    go_ret2
    exact ⟨rfl, rfl⟩
  · by_cases h2 : b > 68719476736
    · go_enter Try.func29, Try.ntmps29
      go_wp2
      go_ret2
      exact ⟨rfl, rfl⟩
    · have h3 : a > b := by omega
      go_enter Try.func29, Try.ntmps29
      go_wp2
      go_ret2
      exact ⟨rfl, rfl⟩
def Fresh (a b : Int) (w : World) (e : Ending) (w' : World) : Prop := e = .returned (.tuple #[.pointer (some ⟨w.heap.size, 0, none⟩), .int .i64 0]) ∧ IsEst w' w.heap.size ⟨a, b, 0, 0, false, 0, 0⟩ ∧ Below w.heap.size w w' ∧ w.heap.size < w'.heap.size
theorem new_ok (a b : Int) (w : World) (h1 : ¬ a < 1) (h2 : ¬ b > 68719476736) (h3 : ¬ a > b) :
    Calls Try.prog 29 #[.int .i64 a, .int .i64 b] w (Fresh a b w) := by
  go_enter Try.func29, Try.ntmps29
  go_wp2
  go_ret2
  exact ⟨rfl, Blk.new _ _ _, (Below.refl _ w).alloc (Nat.le_refl _) _, by simp⟩
theorem held_calls (v lo hi : Int) (w : World) : Calls Try.prog 69 #[.int .i64 v, .int .i64 lo, .int .i64 hi] w fun e w' => e = .returned (.int .i64 (min (max v lo) hi)) ∧ w' = w := by
  go_enter Try.func69, Try.ntmps69
  go_wp2
  go_ret
  exact ⟨rfl, rfl⟩
def plain (s : Est) : Int := min (max (if s.has = true then s.srtt + max 1 (4 * s.vary) else 1000000) s.least) s.most
theorem plain_calls (g : Nat) (s : Est) (w : World) (hs : IsEst w g s) (ho : Ok s) :
    Calls Try.prog 59 #[.pointer (some ⟨g, 0, none⟩)] w fun e w' => e = .returned (.int .i64 (plain s)) ∧ ∃ n, w' = w.drewN n := by
  obtain ⟨hf, c0, c1, c2, c3, c4, c5, c6⟩ := facts hs
  obtain ⟨least, most, srtt, vary, has, doubled, rise⟩ := s
  obtain ⟨o1, o2, o3, o4, o5, o6, o7, o8, o9⟩ := ho
  simp only at *
  clear hs
  cases has with
  | false =>
    go_enter Try.func59, Try.ntmps59
    go_wp2
    go_quiet ((go_at_call 69; exact Calls.quiet_of_same (held_calls _ _ _ _)))
    go_wp2
    go_ret
    exact ⟨by simp [plain], _, rfl⟩
  | true =>
    go_enter Try.func59, Try.ntmps59
    go_wp2
    go_quiet (fail)
    go_wp2
    go_quiet ((go_at_call 69; exact quiet_add_same (held_calls _ _ _ _)))
    go_wp2
    go_ret
    exact ⟨by simp [plain], _, by rw [World.drewN_drewN]⟩
def dbl (most : Int) : Nat → Int → Int
  | 0, t => t
  | n + 1, t => if t < most then dbl most n (min (2 * t) most) else t
def rto (s : Est) : Int := dbl s.most s.doubled.toNat (plain s)
theorem plain_bd (s : Est) (ho : Ok s) : s.least ≤ plain s ∧ plain s ≤ s.most := by
  unfold plain; unfold Ok at ho; omega
theorem rto_calls (g : Nat) (s : Est) (w : World) (hs : IsEst w g s) (ho : Ok s) :
    Calls Try.prog 32 #[.pointer (some ⟨g, 0, none⟩)] w fun e w' => e = .returned (.int .i64 (rto s)) ∧ ∃ n, w' = w.drewN n := by
  obtain ⟨hf, c0, c1, c2, c3, c4, c5, c6⟩ := facts hs
  have hp := plain_bd s ho
  have P := Lib.hid (plain_calls g s · · ho)
  have e0 : rto s = dbl s.most s.doubled.toNat (plain s) := rfl
  obtain ⟨least, most, srtt, vary, has, doubled, rise⟩ := s
  obtain ⟨o1, o2, o3, o4, o5, o6, o7, o8, o9⟩ := ho
  simp only at *
  generalize plain ⟨least, most, srtt, vary, has, doubled, rise⟩ = p at *
  generalize rto ⟨least, most, srtt, vary, has, doubled, rise⟩ = q at *
  obtain ⟨d, rfl⟩ := Int.eq_ofNat_of_zero_le o8
  simp only [Int.toNat_natCast] at e0
  have E0 := Lib.hid e0
  clear e0
  have HS := Lib.hid hs
  clear hs
  go_enter Try.func32, Try.ntmps32
  go_wp2_with (go_at_call 59; refine (P.out _ HS.out).mono ?_; rintro e w' ⟨rfl, n, rfl⟩)
  go_loop [3, 4] (fun t i => ∃ (k : Nat) (x : Int), k ≤ d ∧ i = .int .i64 k ∧ t = .int .i64 x ∧ 1 ≤ x ∧ x ≤ most ∧ q = dbl most (d - k) x) (fun _ i => d - (intOf i).toNat)
  case atStart => exact ⟨0, p, by omega, rfl, rfl, by omega, by omega, E0.out⟩
  case round =>
    obtain ⟨k, x, hk, rfl, rfl, hx1, hx2, hq⟩ := hrel
    have HQ := Lib.hid hq
    clear hq
    by_cases h1 : k < d
    · by_cases h2 : x < most
      · go_wp2
        go_round
        case rel => exact ⟨k + 1, min (2 * x) most, by omega, by go_num, rfl, by omega, by omega, by rw [HQ.out, show d - k = d - (k + 1) + 1 from by omega, dbl, if_pos h2]⟩
        case measure => simp [intOf]; omega
      · go_wp2
        go_ret
        exact ⟨ret_int (by rw [HQ.out, show d - k = d - (k + 1) + 1 from by omega, dbl, if_neg (by omega)]), _, rfl⟩
    · go_wp2
      go_ret
      exact ⟨ret_int (by rw [HQ.out, show d - k = 0 from by omega, dbl]), _, rfl⟩
def backoff (s : Est) : Est × Bool := if rto s ≥ s.most then (s, false) else ({ s with doubled := s.doubled + 1 }, true)
theorem backoff_calls (g : Nat) (s : Est) (w : World) (hs : IsEst w g s) (ho : Ok s) :
    Calls Try.prog 30 #[.pointer (some ⟨g, 0, none⟩)] w (Post g w (.bool (backoff s).2) (backoff s).1) := by
  obtain ⟨hf, c0, c1, c2, c3, c4, c5, c6⟩ := facts hs
  have P := Lib.hid (rto_calls g s · · ho)
  have E0 : Hid (backoff s = if rto s ≥ s.most then (s, false) else ({ s with doubled := s.doubled + 1 }, true)) := Lib.hid rfl
  obtain ⟨least, most, srtt, vary, has, doubled, rise⟩ := s
  obtain ⟨o1, o2, o3, o4, o5, o6, o7, o8, o9⟩ := ho
  simp only at *
  generalize rto ⟨least, most, srtt, vary, has, doubled, rise⟩ = q at *
  generalize backoff ⟨least, most, srtt, vary, has, doubled, rise⟩ = r at *
  have HS := Lib.hid hs
  clear hs
  by_cases h1 : q ≥ most
  · have e1 := E0.out
    rw [if_pos h1] at e1
    subst e1
    clear E0
    go_enter Try.func30, Try.ntmps30
    go_wp2
    go_quiet ((go_at_call 32; exact Calls.quiet_of (P.out _ (HS.out.drewN _))))
    go_wp2
    go_ret
    exact ⟨rfl, HS.out.drewN _, grown_drewN (grown_refl _ _) _⟩
  · have e1 := E0.out
    rw [if_neg h1] at e1
    subst e1
    clear E0
    go_enter Try.func30, Try.ntmps30
    go_wp2
    go_quiet ((go_at_call 32; exact Calls.quiet_of (P.out _ (HS.out.drewN _))))
    go_wp2
    go_ret
    exact ⟨rfl, ((HS.out.drewN _).set_ 5 _).eq rfl, grown_set (grown_drewN (grown_refl _ _) _) _ _⟩
theorem has_calls (g : Nat) (s : Est) (w : World) (hs : IsEst w g s) : Calls Try.prog 33 #[.pointer (some ⟨g, 0, none⟩)] w fun e w' => e = .returned (.bool s.has) ∧ w = w' := by
  obtain ⟨hf, c0, c1, c2, c3, c4, c5, c6⟩ := facts hs
  clear hs
  go_enter Try.func33, Try.ntmps33
  go_wp2
  go_ret
  exact ⟨rfl, rfl⟩
theorem srtt_calls (g : Nat) (s : Est) (w : World) (hs : IsEst w g s) : Calls Try.prog 34 #[.pointer (some ⟨g, 0, none⟩)] w fun e w' => e = .returned (.int .i64 s.srtt) ∧ w = w' := by
  obtain ⟨hf, c0, c1, c2, c3, c4, c5, c6⟩ := facts hs
  clear hs
  go_enter Try.func34, Try.ntmps34
  go_wp2
  go_ret
  exact ⟨rfl, rfl⟩
theorem var_calls (g : Nat) (s : Est) (w : World) (hs : IsEst w g s) : Calls Try.prog 35 #[.pointer (some ⟨g, 0, none⟩)] w fun e w' => e = .returned (.int .i64 s.vary) ∧ w = w' := by
  obtain ⟨hf, c0, c1, c2, c3, c4, c5, c6⟩ := facts hs
  clear hs
  go_enter Try.func35, Try.ntmps35
  go_wp2
  go_ret
  exact ⟨rfl, rfl⟩
theorem doubled_calls (g : Nat) (s : Est) (w : World) (hs : IsEst w g s) : Calls Try.prog 41 #[.pointer (some ⟨g, 0, none⟩)] w fun e w' => e = .returned (.int .i64 s.doubled) ∧ w = w' := by
  obtain ⟨hf, c0, c1, c2, c3, c4, c5, c6⟩ := facts hs
  clear hs
  go_enter Try.func41, Try.ntmps41
  go_wp2
  go_ret
  exact ⟨rfl, rfl⟩
theorem clone_calls (g : Nat) (s : Est) (w : World) (hs : IsEst w g s) : Calls Try.prog 37 #[.pointer (some ⟨g, 0, none⟩)] w fun e w' => e = .returned (.pointer (some ⟨w.heap.size, 0, none⟩)) ∧ IsEst w' w.heap.size s ∧ Below w.heap.size w w' ∧ w'.heap.size = w.heap.size + 1 := by
  obtain ⟨hf, c0, c1, c2, c3, c4, c5, c6⟩ := facts hs
  have hlt := hs.lt
  clear hs
  go_enter Try.func37, Try.ntmps37
  go_wp2
  go_ret
  exact ⟨rfl, Blk.new _ _ _, (Below.refl _ w).alloc (Nat.le_refl _) _, by simp⟩
def k0 : Est := ⟨200000, 60000000, 0, 0, false, 0, 0⟩
def k1 : Est := ⟨200000, 60000000, 100000, 50000, true, 0, 0⟩
def k2 : Est := ⟨200000, 60000000, 100000, 50000, true, 1, 0⟩
theorem known_calls (w : World) : Calls Try.prog 28 #[] w fun e w' => e = .returned (.bool true) ∧ Below w.heap.size w w' := by
  have o0 : Ok k0 := by simp [Ok, k0]
  have o1 : Ok k1 := by simp [Ok, k1]
  have o2 : Ok k2 := by simp [Ok, k2]
  have R0 : Hid (rto k0 = 1000000) := Lib.hid (by decide)
  have R1 : Hid (rto k1 = 300000) := Lib.hid (by decide)
  have R2 : Hid (rto k2 = 600000) := Lib.hid (by decide)
  have S0 : Hid (sample k0 100000 = (k1, 0)) := Lib.hid (by rfl)
  have B1 : Hid (backoff k1 = (k2, true)) := Lib.hid (by rfl)
  go_enter Try.func28, Try.ntmps28
  go_wp2_with fail
  refine (new_ok 200000 60000000 _ (by decide) (by decide) (by decide)).mono ?_
  rintro e w1 ⟨rfl, h1, b1, s1⟩
  have H1 : Hid (IsEst w1 w.heap.size k0) := Lib.hid h1
  clear h1
  go_wp2_with fail
  refine (rto_calls _ k0 _ H1.out o0).mono ?_
  rintro e w2 ⟨rfl, n2, rfl⟩
  rw [R0.out]
  go_wp2_with fail
  refine (sample_calls _ k0 _ _ (H1.out.drewN _) o0).mono ?_
  rintro e w3 ⟨rfl, h3, g3⟩
  rw [S0.out] at h3 ⊢
  have H3 : Hid (IsEst w3 w.heap.size k1) := Lib.hid h3
  clear h3
  have b3 : Below w.heap.size w w3 := below_grown (below_drewN b1 _) (by simpa using Nat.le_of_lt s1) g3 (Nat.le_refl _)
  go_wp2_with fail
  refine (rto_calls _ k1 _ H3.out o1).mono ?_
  rintro e w4 ⟨rfl, n4, rfl⟩
  rw [R1.out]
  go_wp2_with fail
  refine (backoff_calls _ k1 _ (H3.out.drewN _) o1).mono ?_
  rintro e w5 ⟨rfl, h5, g5⟩
  rw [B1.out] at h5 ⊢
  have H5 : Hid (IsEst w5 w.heap.size k2) := Lib.hid h5
  clear h5
  have b5 : Below w.heap.size w w5 := below_grown (below_drewN b3 _) (by simpa using b3.size) g5 (Nat.le_refl _)
  go_wp2_with fail
  refine (rto_calls _ k2 _ H5.out o2).mono ?_
  rintro e w6 ⟨rfl, n6, rfl⟩
  rw [R2.out]
  go_wp2
  go_ret
  exact ⟨rfl, below_drewN b5 _⟩
end Go.Proofs.Ythafjgaleonbgaa.Rtt
