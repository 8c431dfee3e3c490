/- Chapter 13 (alarm), in plain Lean: which alarm rings first, and which ring by a time. No program in it, no conditions of ours. -/
import Derived.Test.YtiphkgkhfomcaaaHeap
set_option linter.unusedSimpArgs false
set_option linter.unusedVariables false
namespace Go.Proofs.Ytiphkgkhfomcaaa.Heap
/-- When alarm k rings; below 0: it is not set. -/
abbrev at_ (A : List Int) (k : Nat) : Int := A.getD k (-1)
theorem at_get {A : List Int} {k : Nat} {a : Int} (h : A[k]? = some a) : at_ A k = a := by simp [at_, List.getD_eq_getElem?_getD, h]
theorem get_at {A : List Int} {k : Nat} (h : k < A.length) : A[k]? = some (at_ A k) := by simp [at_, List.getD_eq_getElem?_getD, h]
theorem at_lt {A : List Int} {k : Nat} (h : 0 ≤ at_ A k) : k < A.length := by
  by_cases hk : k < A.length
  · exact hk
  · simp [at_, List.getD_eq_getElem?_getD, List.getElem?_eq_none (by omega : A.length ≤ k)] at h
theorem at_set {A : List Int} {k j : Nat} {a : Int} : at_ (A.set k a) j = if j = k ∧ k < A.length then a else at_ A j := by
  simp only [at_, List.getD_eq_getElem?_getD, List.getElem?_set]
  by_cases h : k = j
  · subst h
    by_cases h2 : k < A.length
    · simp [h2]
    · simp [h2, List.getElem?_eq_none (by omega : A.length ≤ k)]
  · simp [h, Ne.symm h]
def bestTo (A : List Int) : Nat → Int
  | 0 => -1
  | i + 1 => if 0 ≤ at_ A i ∧ (bestTo A i < 0 ∨ at_ A i < at_ A (bestTo A i).toNat) then i else bestTo A i
def best (A : List Int) : Int := bestTo A A.length
/-- b is the first among those ahead of n that are set. -/
def IsBest (A : List Int) (n : Nat) (b : Nat) : Prop := b < n ∧ 0 ≤ at_ A b ∧ ∀ k, k < n → 0 ≤ at_ A k → at_ A b < at_ A k ∨ (at_ A b = at_ A k ∧ b ≤ k)
theorem bestTo_spec (A : List Int) : ∀ n, (bestTo A n = -1 ∧ ∀ k, k < n → at_ A k < 0) ∨ ∃ b : Nat, bestTo A n = b ∧ IsBest A n b
  | 0 => .inl ⟨rfl, fun k h => by omega⟩
  | i + 1 => by
    rcases bestTo_spec A i with ⟨h1, h2⟩ | ⟨b, h1, h2, h3, h4⟩
    · by_cases h : 0 ≤ at_ A i
      · refine .inr ⟨i, ?_, by omega, h, fun k hk h0 => ?_⟩
        · simp only [bestTo]
          rw [if_pos ⟨h, .inl (by omega)⟩]
        · by_cases e : k = i
          · subst e; exact .inr ⟨rfl, Nat.le_refl _⟩
          · have := h2 k (by omega); omega
      · refine .inl ⟨?_, fun k hk => ?_⟩
        · simp only [bestTo]
          rw [if_neg (fun c => h c.1)]
          exact h1
        · by_cases e : k = i
          · subst e; omega
          · exact h2 k (by omega)
    · by_cases h : 0 ≤ at_ A i ∧ at_ A i < at_ A b
      · refine .inr ⟨i, ?_, by omega, h.1, fun k hk h0 => ?_⟩
        · simp only [bestTo]
          rw [if_pos ⟨h.1, .inr (by rw [h1]; exact h.2)⟩]
        · by_cases e : k = i
          · subst e; exact .inr ⟨rfl, Nat.le_refl _⟩
          · have := h4 k (by omega) h0; omega
      · refine .inr ⟨b, ?_, by omega, h3, fun k hk h0 => ?_⟩
        · simp only [bestTo]
          rw [if_neg (fun c => h ⟨c.1, c.2.elim (fun h5 => by omega) (fun h5 => by rw [h1] at h5; exact h5)⟩)]
          exact h1
        · by_cases e : k = i
          · subst e; omega
          · exact h4 k (by omega) h0
theorem best_is {A : List Int} {b : Nat} (h : IsBest A A.length b) : best A = b := by
  rcases bestTo_spec A A.length with ⟨h1, h2⟩ | ⟨c, h1, h2, h3, h4⟩
  · have := h2 b h.1
    have := h.2.1
    omega
  · unfold best
    rw [h1]
    have x := h4 b h.1 h.2.1
    have y := h.2.2 c h2 h3
    omega
theorem best_none {A : List Int} (h : best A < 0) : best A = -1 ∧ ∀ k, at_ A k < 0 := by
  rcases bestTo_spec A A.length with ⟨h1, h2⟩ | ⟨c, h1, _⟩
  · refine ⟨h1, fun k => ?_⟩
    by_cases hk : k < A.length
    · exact h2 k hk
    · simp [at_, List.getD_eq_getElem?_getD, List.getElem?_eq_none (by omega : A.length ≤ k)]
  · unfold best at h
    omega
theorem best_some {A : List Int} (h : ¬ best A < 0) : ∃ b : Nat, best A = b ∧ IsBest A A.length b := by
  rcases bestTo_spec A A.length with ⟨h1, h2⟩ | h1
  · unfold best at h; omega
  · exact h1
theorem cnt_zero {A : List Int} (h : ∀ k, at_ A k < 0) : cnt A = 0 := by
  unfold cnt
  rw [List.countP_eq_zero]
  intro a ha
  obtain ⟨k, hk⟩ := List.mem_iff_getElem?.1 ha
  have := h k
  rw [at_get hk] at this
  simp [isSet]
  omega
theorem cnt_pos {A : List Int} {k : Nat} (h : 0 ≤ at_ A k) : 0 < cnt A := by
  unfold cnt
  rw [List.countP_pos_iff]
  exact ⟨_, List.mem_of_getElem? (get_at (at_lt h)), by simp [isSet]; exact h⟩
theorem cnt_best {A : List Int} : cnt A = 0 ↔ best A < 0 := by
  constructor
  · intro h
    by_cases hb : best A < 0
    · exact hb
    · obtain ⟨b, h1, h2, h3, _⟩ := best_some hb
      have := cnt_pos h3
      omega
  · intro h
    exact cnt_zero (best_none h).2
/-- The heap's root is the first. -/
theorem root_best {l : List Ring} {A : List Int} (hr : Rep l A) (hh : Heap (g l) l.length) (hl : 0 < l.length) : ∃ b : Nat, best A = b ∧ g l 0 = ⟨at_ A b, b⟩ ∧ IsBest A A.length b := by
  obtain ⟨nm, e1, e2, e3⟩ := hr.of_ 0 hl
  have ha := at_get e2
  have hB : IsBest A A.length nm := by
    refine ⟨(List.getElem?_eq_some_iff.1 e2).1, by omega, fun k hk h0 => ?_⟩
    obtain ⟨j, hj, e4⟩ := hr.all k _ (get_at hk) h0
    have := hh.root j hj
    unfold lt at this
    rw [e4] at this
    simp only at this
    omega
  refine ⟨nm, best_is hB, ?_, hB⟩
  cases hg : g l 0 with
  | mk a b =>
    rw [hg] at e1 ha
    simp only at e1 ha
    rw [e1, ha]
/-- Which ring by the time t, and what is set behind it. -/
def adv (t : Int) : Nat → List Int → List Int × List Int
  | 0, A => ([], A)
  | f + 1, A => if best A < 0 ∨ t < at_ A (best A).toNat then ([], A) else (best A :: (adv t f (A.set (best A).toNat (-1))).1, (adv t f (A.set (best A).toNat (-1))).2)
theorem adv_stop {t : Int} {f : Nat} {A : List Int} (h : best A < 0 ∨ t < at_ A (best A).toNat) : adv t f A = ([], A) := by
  cases f with
  | zero => rfl
  | succ f => simp only [adv]; rw [if_pos h]
theorem adv_go {t : Int} {f : Nat} {A : List Int} {b : Nat} (hb : best A = b) (ht : at_ A b ≤ t) : adv t (f + 1) A = ((b : Int) :: (adv t f (A.set b (-1))).1, (adv t f (A.set b (-1))).2) := by
  simp only [adv]
  rw [hb, if_neg (by simp only [Int.toNat_natCast]; omega)]
  rfl
theorem at_off {A : List Int} {b k : Nat} : at_ (A.set b (-1)) k = at_ A k ∨ at_ (A.set b (-1)) k = -1 := by
  rw [at_set]
  split
  · exact .inr rfl
  · exact .inl rfl
theorem adv_length (t : Int) : ∀ f A, (adv t f A).2.length = A.length
  | 0, A => rfl
  | f + 1, A => by
    simp only [adv]
    split
    · rfl
    · simp only
      rw [adv_length t f]
      simp
/-- With enough rounds none is left that rings by t. -/
theorem adv_left (t : Int) : ∀ f A, cnt A ≤ f → ∀ k, 0 ≤ at_ (adv t f A).2 k → t < at_ (adv t f A).2 k
  | 0, A, hf, k, hk => by
    have := cnt_pos (A := A) (k := k) hk
    omega
  | f + 1, A, hf, k, hk => by
    by_cases hb : best A < 0 ∨ t < at_ A (best A).toNat
    · rw [adv_stop hb] at hk ⊢
      simp only at hk ⊢
      rcases hb with hb | hb
      · have := (best_none hb).2 k
        omega
      · by_cases hb2 : best A < 0
        · have := (best_none hb2).2 k; omega
        · obtain ⟨b, e, h1, h2, h3⟩ := best_some hb2
          rw [e] at hb
          simp only [Int.toNat_natCast] at hb
          have := h3 k (at_lt hk) hk
          omega
    · have hb2 : ¬ best A < 0 := fun h => hb (.inl h)
      obtain ⟨b, e, h1, h2, h3⟩ := best_some hb2
      have ht : at_ A b ≤ t := by
        have : ¬ t < at_ A (best A).toNat := fun h => hb (.inr h)
        rw [e] at this
        simp only [Int.toNat_natCast] at this
        omega
      rw [adv_go e ht] at hk ⊢
      simp only at hk ⊢
      have := cnt_off (get_at h1) h2
      exact adv_left t f _ (by omega) k hk
/-- What is set behind is what was set, or it rang. -/
theorem adv_from (t : Int) : ∀ f A k, at_ (adv t f A).2 k = at_ A k ∨ at_ (adv t f A).2 k = -1
  | 0, A, k => .inl rfl
  | f + 1, A, k => by
    simp only [adv]
    split
    · exact .inl rfl
    · simp only
      rcases adv_from t f (A.set (best A).toNat (-1)) k with h | h
      · rw [h]; exact at_off
      · exact .inr h
end Go.Proofs.Ytiphkgkhfomcaaa.Heap
