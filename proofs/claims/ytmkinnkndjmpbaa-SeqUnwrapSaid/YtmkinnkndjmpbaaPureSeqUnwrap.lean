/- For every offset near and every number s: seq.Unwrap tells the offset that the document tells, or none where it tells none. No conditions. -/
import Derived.Test.YtmkinnkndjmpbaaPSeqUnwrapx1
import Derived.OpenShut
namespace Go.Proofs.Ytmkinnkndjmpbaa.Pure
open Go.RowKit Go.OpenShut Go.Proofs.Ytmkinnkndjmpbaa.PSeqUnwrap Go.Proofs.YtmkinnkndjmpbaaW.PrintWords Go.Proofs.YtmkinnkndjmpbaaW.PrintLast
theorem w64 {x : Int} (h : -9223372036854775808 ≤ x ∧ x ≤ 9223372036854775807) : wrap64 x = x := by unfold wrap64; omega
theorem known3 : undertowlaw01_known.f 3 = some true := by decide +kernel
theorem known_ok {k : Nat} (h : 3 ≤ k) : undertowlaw01_known.f k = some true := at_rounds undertowlaw01_known.mono h known3
def dist (a b : Int) : Int := (b - a + 2147483648) % 4294967296 - 2147483648
theorem sdist_ok (a b : Int) : seq_Dist.f a b = some (dist a b) := by
  unfold seq_Dist.f dist; rw [w64 (by unfold wrap32; omega)]; unfold wrap32; congr 1; omega
theorem mod_ok (x : Int) (h : -9223372036854775808 ≤ x ∧ x ≤ 9223372036854775807) : undertowref01_Mod.f x = some (x % 4294967296) := by
  unfold undertowref01_Mod.f
  by_cases h0 : 0 ≤ x
  · rw [Int.tmod_eq_emod_of_nonneg h0, if_neg (by omega)]
  · have e : Int.tmod x 4294967296 = -((-x) % 4294967296) := by
      rw [← Int.tmod_eq_emod_of_nonneg (by omega : 0 ≤ -x), Int.neg_tmod, Int.neg_neg]
    rw [e]
    split
    · rw [w64 (by omega)]; congr 1; omega
    · congr 1; omega
theorem rdist_ok (a b : Int) (ha : 0 ≤ a ∧ a ≤ 4294967295) (hb : 0 ≤ b ∧ b ≤ 4294967295) : undertowref01_Dist.f a b = some (dist a b) := by
  unfold undertowref01_Dist.f dist; rw [w64 (by omega), mod_ok _ (by omega)]; simp only [Option.bind_some]
  split
  · rw [w64 (by omega)]; congr 1; omega
  · congr 1; omega
theorem SeqUnwrap : undertowlaw01_SeqUnwrap.Pure := by
  intro a0 a1 h0 h1
  have b0 := bounds_i64 h0
  have b1 := bounds_u32 h1
  refine ⟨3, ?_⟩
  unfold undertowlaw01_SeqUnwrap.f
  rw [known3]; simp only [Option.bind_some, if_true]
  rw [w64 (x := a1) (by omega)]
  unfold undertowref01_Unwrap.f seq_Unwrap.f seq_fits.f seq_Wrap.f
  by_cases c0 : a0 < 0
  · rw [if_neg (by omega), if_pos c0]
    simp [undertowref01_Unwrap.j0]
  rw [if_pos (show a0 ≥ 0 by omega), if_neg c0]
  by_cases c1 : a0 > 4611686018427387904
  · simp only [Option.bind_some, decide_eq_true_eq, undertowref01_Unwrap.j0]
    rw [if_neg (by omega), if_pos c1]; simp
  have hd : -2147483648 ≤ dist (a0 % 4294967296) a1 ∧ dist (a0 % 4294967296) a1 < 2147483648 := by unfold dist; omega
  simp only [Option.bind_some, decide_eq_true_eq, undertowref01_Unwrap.j0]
  rw [if_pos (by omega), if_neg c1, sdist_ok, mod_ok _ b0]
  simp only [Option.bind_some]
  rw [rdist_ok _ _ (by omega) (by omega)]
  simp only [Option.bind_some]
  rw [w64 (by omega)]
  generalize dist (a0 % 4294967296) a1 = d at *
  by_cases c2 : a0 + d < 0
  · simp [if_neg (show ¬ (a0 + d ≥ 0) by omega), c2]
  · by_cases c3 : a0 + d > 4611686018427387904
    · simp [c2, c3, show ¬ a0 + d ≤ 4611686018427387904 by omega]
    · simp [if_pos (show (a0 + d ≥ 0) by omega), c2, c3, show a0 + d ≤ 4611686018427387904 by omega]

end Go.Proofs.Ytmkinnkndjmpbaa.Pure
