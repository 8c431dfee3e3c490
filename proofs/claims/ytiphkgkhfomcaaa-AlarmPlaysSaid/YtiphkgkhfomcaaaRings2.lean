/- Chapter 13 (alarm), in plain Lean: what rings by a time. No program in it, no conditions of ours. -/
import Derived.Test.YtiphkgkhfomcaaaBest
set_option linter.unusedSimpArgs false
set_option linter.unusedVariables false
namespace Go.Proofs.Ytiphkgkhfomcaaa.Heap
theorem off_of {A : List Int} {b k : Nat} (h : 0 ≤ at_ (A.set b (-1)) k) : k ≠ b ∧ at_ (A.set b (-1)) k = at_ A k := by
  rw [at_set] at h ⊢
  split at h
  · omega
  · rename_i hn
    by_cases e : k = b
    · subst e
      have : k < A.length := at_lt h
      exact absurd ⟨rfl, this⟩ hn
    · exact ⟨e, by rw [if_neg hn]⟩
/-- What rings was set, rings by t, is not set behind, and rings in order. -/
theorem adv_rings (t : Int) : ∀ f A, (∀ x ∈ (adv t f A).1, ∃ b : Nat, x = b ∧ 0 ≤ at_ A b ∧ at_ A b ≤ t ∧ at_ (adv t f A).2 b = -1) ∧ (adv t f A).1.Pairwise (fun x y => at_ A x.toNat ≤ at_ A y.toNat)
  | 0, A => ⟨fun x hx => by simp [adv] at hx, by simp [adv]⟩
  | f + 1, A => by
    by_cases hb : best A < 0 ∨ t < at_ A (best A).toNat
    · rw [adv_stop hb]
      exact ⟨fun x hx => by simp at hx, List.Pairwise.nil⟩
    · have hb2 : ¬ best A < 0 := fun h => hb (.inl h)
      obtain ⟨b, e, h1, h2, h3⟩ := best_some hb2
      have ht : at_ A b ≤ t := by
        have : ¬ t < at_ A (best A).toNat := fun h => hb (.inr h)
        rw [e] at this
        simp only [Int.toNat_natCast] at this
        omega
      rw [adv_go e ht]
      obtain ⟨i1, i2⟩ := adv_rings t f (A.set b (-1))
      have low : ∀ x ∈ (adv t f (A.set b (-1))).1, ∃ c : Nat, x = c ∧ c ≠ b ∧ at_ (A.set b (-1)) c = at_ A c ∧ 0 ≤ at_ A c ∧ at_ A c ≤ t := fun x hx => by
        obtain ⟨c, e1, e2, e3, _⟩ := i1 x hx
        obtain ⟨e4, e5⟩ := off_of e2
        exact ⟨c, e1, e4, e5, by omega, by omega⟩
      refine ⟨fun x hx => ?_, ?_⟩
      · simp only [List.mem_cons] at hx
        rcases hx with rfl | hx
        · refine ⟨b, rfl, h2, ht, ?_⟩
          simp only
          have h0 : at_ (A.set b (-1)) b = -1 := by rw [at_set, if_pos ⟨rfl, h1⟩]
          rcases adv_from t f (A.set b (-1)) b with h | h
          · rw [h]; exact h0
          · exact h
        · obtain ⟨c, e1, _, e3, e4, e5⟩ := low x hx
          refine ⟨c, e1, e4, e5, ?_⟩
          obtain ⟨c', e6, _, _, e7⟩ := i1 x hx
          obtain rfl : c = c' := by omega
          exact e7
      · simp only [List.pairwise_cons]
        refine ⟨fun x hx => ?_, ?_⟩
        · obtain ⟨c, rfl, _, _, e4, _⟩ := low x hx
          simp only [Int.toNat_natCast]
          have := h3 c (at_lt e4) e4
          omega
        · refine i2.imp_of_mem fun {x y} hx hy hxy => ?_
          obtain ⟨c, rfl, _, e3, _⟩ := low x hx
          obtain ⟨c', rfl, _, e3', _⟩ := low y hy
          simp only [Int.toNat_natCast] at hxy ⊢
          omega
theorem adv_count (t : Int) : ∀ f A, (adv t f A).1.length ≤ f
  | 0, A => by simp [adv]
  | f + 1, A => by
    simp only [adv]
    split
    · simp
    · simp only [List.length_cons]
      have := adv_count t f (A.set (best A).toNat (-1))
      omega
/-- The clock has alarms for n names, none is behind it; T tells when each that is set rings. -/
structure Inv (n : Nat) (now : Int) (A T : List Int) : Prop where
  len : A.length = n
  n64 : n ≤ 64
  t64 : T.length = 64
  ahead : ∀ k, 0 ≤ at_ A k → now ≤ at_ A k
  told : ∀ k, 0 ≤ at_ A k → at_ T k = at_ A k
theorem inv_fresh (n : Nat) (h : n ≤ 64) : Inv n 0 (List.replicate n (-1)) (List.replicate 64 0) := by
  have e : ∀ k, at_ (List.replicate n (-1)) k = -1 := fun k => by
    simp only [at_, List.getD_eq_getElem?_getD, List.getElem?_replicate]
    split <;> rfl
  exact ⟨by simp, h, by simp, fun k hk => by rw [e] at hk; omega, fun k hk => by rw [e] at hk; omega⟩
theorem Inv.set_ {n : Nat} {now : Int} {A T : List Int} (h : Inv n now A T) {k : Nat} {a : Int} (hk : k < n) (ha : now ≤ a) : Inv n now (A.set k a) (T.set k a) := by
  have l1 := h.len
  have l2 := h.t64
  have l3 := h.n64
  refine ⟨by simpa using h.len, h.n64, by simpa using h.t64, fun j hj => ?_, fun j hj => ?_⟩
  · rw [at_set] at hj ⊢
    split
    · exact ha
    · rename_i hn; rw [if_neg hn] at hj; exact h.ahead j hj
  · rw [at_set] at hj
    rw [at_set, at_set]
    by_cases e : j = k
    · subst e
      rw [if_pos ⟨rfl, by omega⟩, if_pos ⟨rfl, by omega⟩]
    · rw [if_neg (fun c => e c.1)] at hj
      rw [if_neg (fun c => e c.1), if_neg (fun c => e c.1)]
      exact h.told j hj
theorem Inv.off {n : Nat} {now : Int} {A T : List Int} (h : Inv n now A T) (k : Nat) : Inv n now (A.set k (-1)) T :=
  ⟨by simpa using h.len, h.n64, h.t64, fun j hj => by
    obtain ⟨_, e⟩ := off_of hj
    rw [e] at hj ⊢
    exact h.ahead j hj, fun j hj => by
    obtain ⟨_, e⟩ := off_of hj
    rw [e] at hj ⊢
    exact h.told j hj⟩
theorem Inv.adv {n : Nat} {now : Int} {A T : List Int} (h : Inv n now A T) (t : Int) : Inv n t (adv t A.length A).2 T :=
  ⟨by rw [adv_length]; exact h.len, h.n64, h.t64, fun j hj => by have := adv_left t A.length A (cnt_le A) j hj; omega, fun j hj => by
    rcases adv_from t A.length A j with e | e
    · rw [e] at hj ⊢; exact h.told j hj
    · omega⟩
/-- What the law asks of each that rang. -/
theorem inv_rang {n : Nat} {now : Int} {A T : List Int} (h : Inv n now A T) (t : Int) {k : Nat} {x : Int} (hx : (adv t A.length A).1[k]? = some x) : ∃ b : Nat, x = b ∧ b < n ∧ at_ T b ≤ t ∧ at_ (adv t A.length A).2 b = -1 := by
  obtain ⟨b, e1, e2, e3, e4⟩ := (adv_rings t A.length A).1 x (List.mem_of_getElem? hx)
  exact ⟨b, e1, by have := at_lt e2; have := h.len; omega, by rw [h.told b e2]; exact e3, e4⟩
theorem inv_order {n : Nat} {now : Int} {A T : List Int} (h : Inv n now A T) (t : Int) {k b c : Nat} (hb : (adv t A.length A).1[k]? = some (b : Int)) (hc : (adv t A.length A).1[k + 1]? = some (c : Int)) : at_ T b ≤ at_ T c := by
  obtain ⟨p1, p2⟩ := adv_rings t A.length A
  obtain ⟨b', e1, e2, _, _⟩ := p1 _ (List.mem_of_getElem? hb)
  obtain ⟨c', f1, f2, _, _⟩ := p1 _ (List.mem_of_getElem? hc)
  obtain rfl : b = b' := by omega
  obtain rfl : c = c' := by omega
  rw [h.told b e2, h.told c f2]
  obtain ⟨hk, ek⟩ := List.getElem?_eq_some_iff.1 hb
  obtain ⟨hk2, ek2⟩ := List.getElem?_eq_some_iff.1 hc
  have := List.pairwise_iff_getElem.1 p2 k (k + 1) hk hk2 (by omega)
  rw [ek, ek2] at this
  simpa using this
end Go.Proofs.Ytiphkgkhfomcaaa.Heap
