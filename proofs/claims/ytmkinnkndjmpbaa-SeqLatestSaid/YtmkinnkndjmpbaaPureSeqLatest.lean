/- For every number and every list of numbers: seq.Latest tells the one that is the furthest ahead, as the document's walk does. No conditions. -/
import Derived.Test.YtmkinnkndjmpbaaPSeqLatestx1
import Derived.OpenShut
namespace Go.Proofs.Ytmkinnkndjmpbaa.Pure
open Go.RowKit Go.OpenShut Go.Proofs.Ytmkinnkndjmpbaa.PSeqLatest Go.Proofs.YtmkinnkndjmpbaaW.PrintWords Go.Proofs.YtmkinnkndjmpbaaW.PrintLast
theorem w64 {x : Int} (h : -9223372036854775808 ≤ x ∧ x ≤ 9223372036854775807) : wrap64 x = x := by unfold wrap64; omega
theorem known3 : undertowlaw01_known.f 3 = some true := by decide +kernel
theorem known_ok {k : Nat} (h : 3 ≤ k) : undertowlaw01_known.f k = some true := at_rounds undertowlaw01_known.mono h known3
def dist (a b : Int) : Int := (b - a + 2147483648) % 4294967296 - 2147483648
theorem sdist_ok (a b : Int) : seq_Dist.f a b = some (dist a b) := by
  unfold seq_Dist.f dist; rw [w64 (by unfold wrap32; omega)]; unfold wrap32; congr 1; omega
theorem mod_ok (x : Int) (h : -9223372036854775808 ≤ x ∧ x ≤ 9223372036854775807) : undertowref01_Mod.f x = some (x % 4294967296) := by
  unfold undertowref01_Mod.f
  by_cases h0 : 0 ≤ x
  · rw [Int.tmod_eq_emod_of_nonneg h0, if_neg (by omega)]
  · have e : Int.tmod x 4294967296 = -((-x) % 4294967296) := by
      rw [← Int.tmod_eq_emod_of_nonneg (by omega : 0 ≤ -x), Int.neg_tmod, Int.neg_neg]
    rw [e]
    split
    · rw [w64 (by omega)]; congr 1; omega
    · congr 1; omega
theorem rdist_ok (a b : Int) (ha : 0 ≤ a ∧ a ≤ 4294967295) (hb : 0 ≤ b ∧ b ≤ 4294967295) : undertowref01_Dist.f a b = some (dist a b) := by
  unfold undertowref01_Dist.f dist; rw [w64 (by omega), mod_ok _ (by omega)]; simp only [Option.bind_some]
  split
  · rw [w64 (by omega)]; congr 1; omega
  · congr 1; omega
def best (a : Int) : List Int → Int → Int
  | [], b => b
  | x :: l, b => best a l (if dist a x > dist a b then x else b)
theorem rd_mem {l : List Int} {i : Int} (h0 : 0 ≤ i) (h1 : i < l.length) : rd l i ∈ l := by
  unfold rd
  have : i.toNat < l.length := by omega
  rw [List.getD_eq_getElem?_getD, List.getElem?_eq_getElem this]
  exact List.getElem_mem _
theorem rd_drop {l : List Int} {i : Int} (h0 : 0 ≤ i) (h1 : i < l.length) : l.drop i.toNat = rd l i :: l.drop (i + 1).toNat := by
  have h : i.toNat < l.length := by omega
  rw [List.drop_eq_getElem_cons h, show (i + 1).toNat = i.toNat + 1 by omega]
  congr 1
  unfold rd
  rw [List.getD_eq_getElem?_getD, List.getElem?_eq_getElem h]; rfl
theorem drop_end {l : List Int} {i : Int} (h0 : 0 ≤ i) (h1 : ¬ i < l.length) : l.drop i.toNat = [] := List.drop_eq_nil_of_le (by omega)
theorem slate (a : Int) (l : List Int) (hl : l.length ≤ 140737488351232) (d : Nat) : ∀ (k : Nat) (i b : Int), 0 ≤ i → i ≤ l.length → (l.length : Int) - i = d → d < k →
    seq_Latest.l0 k a l b l.length i = some (best a (l.drop i.toNat) b) := by
  induction d with
  | zero =>
    intro k i b h0 h1 hd hk
    obtain ⟨k, rfl⟩ : ∃ m, k = m + 1 := ⟨k - 1, by omega⟩
    simp only [seq_Latest.l0]; rw [if_neg (by omega), drop_end h0 (by omega)]; rfl
  | succ d ih =>
    intro k i b h0 h1 hd hk
    obtain ⟨k, rfl⟩ : ∃ m, k = m + 1 := ⟨k - 1, by omega⟩
    have hlt : i < (l.length : Int) := by omega
    simp only [seq_Latest.l0]; rw [if_pos hlt, if_pos h0, if_pos hlt, rd_drop h0 hlt]
    simp only [sdist_ok, Option.bind_some, best]
    rw [w64 (by omega)]
    split <;> exact ih k (i + 1) _ (by omega) (by omega) (by omega) (by omega)
theorem rlate (a : Int) (ha : 0 ≤ a ∧ a ≤ 4294967295) (l : List Int) (hw : ∀ x ∈ l, 0 ≤ x ∧ x ≤ 4294967295) (hl : l.length ≤ 140737488351232) (d : Nat) : ∀ (k : Nat) (i b : Int), 0 ≤ b ∧ b ≤ 4294967295 → 0 ≤ i → i ≤ l.length → (l.length : Int) - i = d → l.length + d + 4 < k →
    (∃ j, j ≤ k ∧ best a (l.drop i.toNat) b = best a l a) → undertowlaw01_SeqLatest.l0 k a l b i = some true := by
  induction d with
  | zero =>
    intro k i b hb h0 h1 hd hk hbest
    obtain ⟨k, rfl⟩ : ∃ m, k = m + 1 := ⟨k - 1, by omega⟩
    obtain ⟨_, _, hbest⟩ := hbest
    rw [drop_end h0 (by omega)] at hbest
    simp only [undertowlaw01_SeqLatest.l0]; rw [if_neg (by omega)]
    unfold seq_Latest.f
    rw [slate a l hl l.length k 0 a (by omega) (by omega) (by omega) (by omega)]
    simp only [Option.bind_some]
    rw [if_pos (by rw [Int.toNat_zero, List.drop_zero, ← hbest]; rfl), known_ok (by omega)]; rfl
  | succ d ih =>
    intro k i b hb h0 h1 hd hk hbest
    obtain ⟨k, rfl⟩ : ∃ m, k = m + 1 := ⟨k - 1, by omega⟩
    have hlt : i < (l.length : Int) := by omega
    have hx := hw _ (rd_mem h0 hlt)
    obtain ⟨_, _, hbest⟩ := hbest
    rw [rd_drop h0 hlt] at hbest
    simp only [best] at hbest
    simp only [undertowlaw01_SeqLatest.l0]; rw [if_pos hlt, if_pos h0]
    rw [w64 (x := a) (by omega), w64 (x := rd l i) (by omega), w64 (x := b) (by omega), rdist_ok _ _ ha hx, rdist_ok _ _ ha hb]
    simp only [Option.bind_some]
    rw [w64 (by omega)]
    split
    · rename_i c; rw [if_pos c] at hbest
      exact ih k (i + 1) _ hx (by omega) (by omega) (by omega) (by omega) ⟨0, by omega, hbest⟩
    · rename_i c; rw [if_neg c] at hbest
      exact ih k (i + 1) _ hb (by omega) (by omega) (by omega) (by omega) ⟨0, by omega, hbest⟩
theorem SeqLatest : undertowlaw01_SeqLatest.Pure := by
  intro a l h0 hm hl hw
  have b0 := bounds_u32 h0
  refine ⟨2 * l.length + 6, ?_⟩
  unfold undertowlaw01_SeqLatest.f
  rw [known_ok (by omega)]; simp only [Option.bind_some, if_true]
  exact rlate a b0 l (fun x hx => bounds_u32 (hw x hx)) (by omega) l.length _ 0 a b0 (by omega) (by omega) (by omega) (by omega) ⟨0, by omega, by rw [Int.toNat_zero, List.drop_zero]⟩

end Go.Proofs.Ytmkinnkndjmpbaa.Pure
