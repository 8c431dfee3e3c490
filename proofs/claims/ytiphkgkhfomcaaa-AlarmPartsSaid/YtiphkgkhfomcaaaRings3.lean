/- Chapter 13 (alarm), in plain Lean: however a time is parted, the same ring. No program in it, no conditions of ours. -/
import Derived.Test.YtiphkgkhfomcaaaBest
set_option linter.unusedSimpArgs false
set_option linter.unusedVariables false
namespace Go.Proofs.Ytiphkgkhfomcaaa.Heap
theorem adv_way (t : Int) (A : List Int) : (best A < 0 ∨ t < at_ A (best A).toNat) ∨ ∃ b : Nat, best A = b ∧ at_ A b ≤ t ∧ 0 ≤ at_ A b ∧ b < A.length := by
  by_cases hb : best A < 0 ∨ t < at_ A (best A).toNat
  · exact .inl hb
  · have hb2 : ¬ best A < 0 := fun h => hb (.inl h)
    obtain ⟨b, e, h1, h2, h3⟩ := best_some hb2
    refine .inr ⟨b, e, ?_, h2, h1⟩
    have : ¬ t < at_ A (best A).toNat := fun h => hb (.inr h)
    rw [e] at this
    simp only [Int.toNat_natCast] at this
    omega
theorem adv_fuel (t : Int) : ∀ f A f', cnt A ≤ f → cnt A ≤ f' → adv t f A = adv t f' A
  | 0, A, f', h, h' => by
    have hb := (@cnt_best A).1 (by omega)
    rw [adv_stop (.inl hb), adv_stop (.inl hb)]
  | f + 1, A, f', h, h' => by
    rcases adv_way t A with hs | ⟨b, e, ht, h0, hl⟩
    · rw [adv_stop hs, adv_stop hs]
    · have hc := cnt_off (get_at hl) h0
      obtain ⟨f2, rfl⟩ : ∃ f2, f' = f2 + 1 := ⟨f' - 1, by omega⟩
      rw [adv_go e ht, adv_go e ht, adv_fuel t f _ f2 (by omega) (by omega)]
theorem adv_comp {t1 t2 : Int} (h : t1 ≤ t2) : ∀ f A f', cnt A ≤ f → cnt (adv t1 f A).2 ≤ f' → adv t2 f A = ((adv t1 f A).1 ++ (adv t2 f' (adv t1 f A).2).1, (adv t2 f' (adv t1 f A).2).2)
  | 0, A, f', hf, hf' => by
    have e : adv t1 0 A = ([], A) := rfl
    rw [e] at hf' ⊢
    rw [adv_fuel t2 0 A f' hf hf']
    rfl
  | f + 1, A, f', hf, hf' => by
    rcases adv_way t1 A with hs | ⟨b, e, ht, h0, hl⟩
    · rw [adv_stop hs] at hf' ⊢
      rw [adv_fuel t2 (f + 1) A f' hf hf']
      rfl
    · have hc := cnt_off (get_at hl) h0
      rw [adv_go e ht] at hf' ⊢
      rw [adv_go e (by omega), adv_comp h f _ f' (by omega) hf']
      rfl
end Go.Proofs.Ytiphkgkhfomcaaa.Heap
