/- SeqTurns: for all numbers a, b, k: the way back is the way turned, but for 2^31, and ways stay if both are moved by as much. No conditions. -/
import Derived.Test.YtmkinnkndjmpbaaPureSeqDist
import Derived.WalkKit
import Derived.Lib.Hide
namespace Go.Proofs.Ytmkinnkndjmpbaa.Turns
open Go.RowKit Go.Proofs.Ytmkinnkndjmpbaa.PSeqDist Go.Proofs.Ytmkinnkndjmpbaa.Pure Go.Proofs.YtmkinnkndjmpbaaW.PrintWords Go.Proofs.YtmkinnkndjmpbaaW.PrintLast
theorem dist_calls (a b r : Int) (w : World) (h : dist a b = r) : Calls Try.prog 22 #[.int .u32 a, .int .u32 b] w fun e w' => e = .returned (.int .i64 r) ∧ ∃ n, w' = w.drewN n :=
  (seq_Dist.calls a b r w (by rw [sdist_ok, h])).mono fun _ _ ⟨he, hw⟩ => ⟨he, hw.out⟩
theorem less_calls (a b : Int) (r : Bool) (w : World) (h : decide (0 < dist a b) = r) : Calls Try.prog 23 #[.int .u32 a, .int .u32 b] w fun e w' => e = .returned (.bool r) ∧ ∃ n, w' = w.drewN n :=
  (seq_Less.calls a b r w (by unfold seq_Less.f; rw [sdist_ok]; simp only [Option.bind_some]; rw [← h])).mono fun _ _ ⟨he, hw⟩ => ⟨he, hw.out⟩
theorem below_drewN {B : Nat} {a w : World} (h : Below B a w) (n : Nat) : Below B a (w.drewN n) := ⟨h.os, h.tape, h.output, h.size, h.block⟩
set_option maxRecDepth 100000 in
set_option maxHeartbeats 2000000 in
theorem walk (a b k : Int) (w : World) (ha : 0 ≤ a ∧ a ≤ 4294967295) (hb : 0 ≤ b ∧ b ≤ 4294967295) (hk : 0 ≤ k ∧ k ≤ 4294967295) :
    Calls Try.prog 8 #[.int .u32 a, .int .u32 b, .int .u32 k] w fun e w' => e = .returned (.bool true) ∧ Below w.heap.size w w' := by
  obtain ⟨D, hD⟩ : ∃ D, D = dist a b := ⟨_, rfl⟩
  have h1 : dist ((a + k) % 4294967296) ((b + k) % 4294967296) = D := by rw [hD]; unfold dist; omega
  have h2 : dist b a = if D = -2147483648 then D else -D := by rw [hD]; unfold dist; split <;> omega
  have h3 : -2147483648 ≤ D ∧ D ≤ 2147483647 := by rw [hD]; unfold dist; omega
  have H0 := Lib.hid hD.symm
  have H1 := Lib.hid h1
  obtain ⟨d0, d1⟩ := h3
  obtain ⟨a0, a1⟩ := ha
  obtain ⟨b0, b1⟩ := hb
  obtain ⟨k0, k1⟩ := hk
  clear hD h1
  have L0 : Hid (decide (0 < dist a b) = decide (0 < D)) := Lib.hid (by rw [H0.out])
  have L1 : Hid (decide (0 < dist ((a + k) % 4294967296) ((b + k) % 4294967296)) = decide (0 < D)) := Lib.hid (by rw [H1.out])
  generalize decide (0 < D) = l at L0 L1
  by_cases hc : D = -2147483648
  · rw [if_pos hc] at h2
    have H2 := Lib.hid h2
    clear h2
    have e1 : (D == -2147483648) = true := by rw [hc]; rfl
    clear hc
    go_enter Try.func8, Try.ntmps8
    go_wp2_with fail
    refine (undertowlaw01_known.calls 3 true _ known3).mono ?_
    rintro e w1 ⟨rfl, b1⟩
    go_wp2_with fail
    refine (dist_calls _ _ _ _ H0.out).mono ?_
    rintro e w2 ⟨rfl, n2, rfl⟩
    go_wp2_with fail
    refine (dist_calls _ _ _ _ H1.out).mono ?_
    rintro e w2 ⟨rfl, n3, rfl⟩
    go_wp2_with fail
    refine (dist_calls _ _ _ _ H2.out).mono ?_
    rintro e w2 ⟨rfl, n4, rfl⟩
    go_wp2_with fail
    refine (less_calls _ _ _ _ L0.out).mono ?_
    rintro e w2 ⟨rfl, n5, rfl⟩
    go_wp2_with fail
    refine (less_calls _ _ _ _ L1.out).mono ?_
    rintro e w2 ⟨rfl, n6, rfl⟩
    go_wp2_with fail
    refine (undertowlaw01_known.calls 3 true _ known3).mono ?_
    rintro e w7 ⟨rfl, b7⟩
    go_wp2
    go_ret
    exact ⟨rfl, below_then (below_drewN b1 _) b1.size b7⟩
  · rw [if_neg hc] at h2
    have H2 := Lib.hid h2
    clear h2
    have e1 : (D == -2147483648) = false := by simpa using hc
    clear hc
    go_enter Try.func8, Try.ntmps8
    go_wp2_with fail
    refine (undertowlaw01_known.calls 3 true _ known3).mono ?_
    rintro e w1 ⟨rfl, b1⟩
    go_wp2_with fail
    refine (dist_calls _ _ _ _ H0.out).mono ?_
    rintro e w2 ⟨rfl, n2, rfl⟩
    go_wp2_with fail
    refine (dist_calls _ _ _ _ H1.out).mono ?_
    rintro e w2 ⟨rfl, n3, rfl⟩
    go_wp2_with fail
    refine (dist_calls _ _ _ _ H2.out).mono ?_
    rintro e w2 ⟨rfl, n4, rfl⟩
    go_wp2_with fail
    refine (less_calls _ _ _ _ L0.out).mono ?_
    rintro e w2 ⟨rfl, n5, rfl⟩
    go_wp2_with fail
    refine (less_calls _ _ _ _ L1.out).mono ?_
    rintro e w2 ⟨rfl, n6, rfl⟩
    go_wp2_with fail
    refine (undertowlaw01_known.calls 3 true _ known3).mono ?_
    rintro e w7 ⟨rfl, b7⟩
    go_wp2
    go_ret
    exact ⟨rfl, below_then (below_drewN b1 _) b1.size b7⟩
end Go.Proofs.Ytmkinnkndjmpbaa.Turns
