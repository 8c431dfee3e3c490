/- For every offset and all numbers a, b: seq.Wrap, seq.Dist and seq.Less tell what the document tells. No conditions. -/
import Derived.Test.YtmkinnkndjmpbaaPSeqDistx1
import Derived.OpenShut
namespace Go.Proofs.Ytmkinnkndjmpbaa.Pure
open Go.RowKit Go.OpenShut Go.Proofs.Ytmkinnkndjmpbaa.PSeqDist Go.Proofs.YtmkinnkndjmpbaaW.PrintWords Go.Proofs.YtmkinnkndjmpbaaW.PrintLast
theorem w64 {x : Int} (h : -9223372036854775808 ≤ x ∧ x ≤ 9223372036854775807) : wrap64 x = x := by unfold wrap64; omega
theorem known3 : undertowlaw01_known.f 3 = some true := by decide +kernel
theorem known_ok {k : Nat} (h : 3 ≤ k) : undertowlaw01_known.f k = some true := at_rounds undertowlaw01_known.mono h known3
def dist (a b : Int) : Int := (b - a + 2147483648) % 4294967296 - 2147483648
theorem sdist_ok (a b : Int) : seq_Dist.f a b = some (dist a b) := by
  unfold seq_Dist.f dist; rw [w64 (by unfold wrap32; omega)]; unfold wrap32; congr 1; omega
theorem mod_ok (x : Int) (h : -9223372036854775808 ≤ x ∧ x ≤ 9223372036854775807) : undertowref01_Mod.f x = some (x % 4294967296) := by
  unfold undertowref01_Mod.f
  by_cases h0 : 0 ≤ x
  · rw [Int.tmod_eq_emod_of_nonneg h0, if_neg (by omega)]
  · have e : Int.tmod x 4294967296 = -((-x) % 4294967296) := by
      rw [← Int.tmod_eq_emod_of_nonneg (by omega : 0 ≤ -x), Int.neg_tmod, Int.neg_neg]
    rw [e]
    split
    · rw [w64 (by omega)]; congr 1; omega
    · congr 1; omega
theorem rdist_ok (a b : Int) (ha : 0 ≤ a ∧ a ≤ 4294967295) (hb : 0 ≤ b ∧ b ≤ 4294967295) : undertowref01_Dist.f a b = some (dist a b) := by
  unfold undertowref01_Dist.f dist; rw [w64 (by omega), mod_ok _ (by omega)]; simp only [Option.bind_some]
  split
  · rw [w64 (by omega)]; congr 1; omega
  · congr 1; omega
theorem SeqDist : undertowlaw01_SeqDist.Pure := by
  intro a0 a1 a2 h0 h1 h2
  have b0 := bounds_i64 h0
  have b1 := bounds_u32 h1
  have b2 := bounds_u32 h2
  refine ⟨3, ?_⟩
  unfold undertowlaw01_SeqDist.f
  rw [known3]; simp only [Option.bind_some, if_true]
  rw [w64 (x := a1) (by omega), w64 (x := a2) (by omega), rdist_ok _ _ b1 b2, mod_ok _ b0]
  unfold seq_Wrap.f seq_Less.f
  simp only [sdist_ok, Option.bind_some]
  rw [w64 (by omega)]
  simp

end Go.Proofs.Ytmkinnkndjmpbaa.Pure
