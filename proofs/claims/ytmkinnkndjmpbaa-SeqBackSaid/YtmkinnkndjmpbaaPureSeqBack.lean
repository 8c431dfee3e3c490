/- Every offset up to 2^61 is found again by its number, next to any offset that is less than 2^31 away. No conditions of ours: those are the law's own. -/
import Derived.Test.YtmkinnkndjmpbaaPSeqBackx1
import Derived.OpenShut
namespace Go.Proofs.Ytmkinnkndjmpbaa.Pure
open Go.RowKit Go.OpenShut Go.Proofs.Ytmkinnkndjmpbaa.PSeqBack Go.Proofs.YtmkinnkndjmpbaaW.PrintWords Go.Proofs.YtmkinnkndjmpbaaW.PrintLast
theorem w64 {x : Int} (h : -9223372036854775808 ≤ x ∧ x ≤ 9223372036854775807) : wrap64 x = x := by unfold wrap64; omega
theorem known3 : undertowlaw01_known.f 3 = some true := by decide +kernel
theorem known_ok {k : Nat} (h : 3 ≤ k) : undertowlaw01_known.f k = some true := at_rounds undertowlaw01_known.mono h known3
def dist (a b : Int) : Int := (b - a + 2147483648) % 4294967296 - 2147483648
theorem sdist_ok (a b : Int) : seq_Dist.f a b = some (dist a b) := by
  unfold seq_Dist.f dist; rw [w64 (by unfold wrap32; omega)]; unfold wrap32; congr 1; omega
theorem SeqBack : undertowlaw01_SeqBack.Pure := by
  intro a0 a1 h0 h1
  have b0 := bounds_i64 h0
  have b1 := bounds_i32 h1
  refine ⟨4, ?_⟩
  unfold undertowlaw01_SeqBack.f
  rw [known_ok (by omega)]; simp only [Option.bind_some, if_true]
  by_cases c0 : a0 < 0
  · rw [if_pos c0]; simp [undertowlaw01_SeqBack.j0, known3]
  rw [if_neg c0]
  by_cases c1 : a0 > 2305843009213693952
  · rw [if_pos c1]; simp [undertowlaw01_SeqBack.j0, known3]
  rw [if_neg c1]
  by_cases c2 : a1 = -2147483648
  · simp [undertowlaw01_SeqBack.j0, known3, c2]
  simp only [undertowlaw01_SeqBack.j0, known3, Option.bind_some]
  rw [if_neg (by simpa using c2), w64 (x := a1) (by omega), w64 (x := a0 + a1) (by omega)]
  by_cases c3 : a0 + a1 < 0
  · rw [if_pos c3]
  rw [if_neg c3]
  unfold seq_Unwrap.f seq_fits.f seq_Wrap.f
  rw [if_pos (show a0 + a1 ≥ 0 by omega)]
  simp only [Option.bind_some, sdist_ok, decide_eq_true_eq]
  rw [if_pos (by omega)]
  have hd : dist ((a0 + a1) % 4294967296) (a0 % 4294967296) = - a1 := by unfold dist; omega
  rw [hd, w64 (by omega), show a0 + a1 + -a1 = a0 by omega, if_pos (show a0 ≥ 0 by omega)]
  simp only [Option.bind_some, decide_eq_true_eq]
  rw [if_pos (by omega)]
  simp

end Go.Proofs.Ytmkinnkndjmpbaa.Pure
