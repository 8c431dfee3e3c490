/- Chapter 21 (buffer): what a ring holds, in plain Lean: no program in sight. -/
import Derived.Test.YtaokiocpfpdmkaaBufRead
set_option linter.unusedSimpArgs false
set_option linter.unusedVariables false
namespace Go.Proofs.Ytaokiocpfpdmkaa.Buff
theorem pos_step (N : Nat) (off : Int) (j : Nat) (hN : 1 ≤ N) (hj : j ≤ N) :
    ((off + j) % (N : Int)).toNat = if (off % (N : Int)).toNat + j < N then (off % (N : Int)).toNat + j else (off % (N : Int)).toNat + j - N := by
  have h0 := Int.emod_nonneg off (show (N : Int) ≠ 0 by omega)
  have h1 := Int.emod_lt_of_pos off (show 0 < (N : Int) by omega)
  have h2 := Int.emod_add_mul_ediv off (N : Int)
  generalize off % (N : Int) = a at *
  generalize off / (N : Int) = q at *
  subst h2
  split
  · rename_i h
    rw [show a + (N : Int) * q + j = (a + j) + (N : Int) * q by omega, Int.add_mul_emod_self_left, Int.emod_eq_of_lt (by omega) (by omega)]
    omega
  · rename_i h
    rw [show a + (N : Int) * q + j = (a + j - N) + (N : Int) * (q + 1) by rw [Int.mul_add]; omega, Int.add_mul_emod_self_left, Int.emod_eq_of_lt (by omega) (by omega)]
    omega
theorem splice_get {α : Type} (L : List α) (o : Nat) (cs : List α) (i : Nat) (h : o + cs.length ≤ L.length) : (splice L o cs)[i]? = if o ≤ i ∧ i < o + cs.length then cs[i - o]? else L[i]? := by
  unfold splice
  have e1 : (L.take o).length = o := by rw [List.length_take]; omega
  rcases Nat.lt_or_ge i o with h1 | h1
  · rw [List.getElem?_append_left (by omega), List.getElem?_take_of_lt h1, if_neg (by omega)]
  · rw [List.getElem?_append_right (by omega), e1]
    rcases Nat.lt_or_ge i (o + cs.length) with h2 | h2
    · rw [List.getElem?_append_left (by omega), if_pos ⟨h1, h2⟩]
    · rw [List.getElem?_append_right (by omega), List.getElem?_drop, if_neg (by omega)]
      congr 1
      omega
theorem put_get (L : List Int) (a k n : Nat) (p : List Int) (i : Nat) (hn : p.length = n) (hk : k = min n (L.length - a)) (ha : a < L.length) (hl : n ≤ L.length) :
    (put L a k p)[i]? = if i < n - k then p[k + i]? else if a ≤ i ∧ i < a + k then p[i - a]? else L[i]? := by
  unfold put
  have e1 : (p.take k).length = k := by rw [List.length_take]; omega
  have e2 : (splice L a (p.take k)).length = L.length := length_splice _ _ _ (by omega)
  rw [splice_get _ _ _ _ (by rw [List.length_drop, e2]; omega), splice_get _ _ _ _ (by omega), e1, List.length_drop, hn]
  by_cases h1 : i < n - k
  · rw [if_pos (by omega), if_pos h1, List.getElem?_drop, Nat.sub_zero]
  · rw [if_neg (by omega), if_neg h1]
    by_cases h2 : a ≤ i ∧ i < a + k
    · rw [if_pos h2, if_pos h2, List.getElem?_take_of_lt (by omega)]
    · rw [if_neg h2, if_neg h2]
/-- The document's bytes lie in the ring, from una on. -/
structure Holds (b : Buf) (una : Int) (most : Nat) (B : List Int) : Prop where
  hu : b.una = una
  hf : b.fin = una + B.length
  hm : b.ring.length = most
  ha : ∀ i, i < B.length → b.ring[at_ b (una + i)]? = B[i]?
theorem holds_new (una : Int) (n : Nat) : Holds ⟨una, una, List.replicate n 0, n⟩ una n [] := ⟨rfl, by simp, by simp, fun i h => by simp at h⟩
theorem holds_write {b : Buf} {una : Int} {most : Nat} {B : List Int} (h : Holds b una most B) (ho : Ok b) (p : List Int) (hp : B.length + p.length ≤ most) :
    Holds ⟨b.una, b.fin + p.length, put b.ring (at_ b b.fin) (upto_ b b.fin p.length) p, b.cap⟩ una most (B ++ p) := by
  have hlt := at_lt ho b.fin
  have hN := ho.n0
  have hm := h.hm
  have hk : upto_ b b.fin p.length = min p.length (b.ring.length - at_ b b.fin) := rfl
  have hlen : (put b.ring (at_ b b.fin) (upto_ b b.fin p.length) p).length = b.ring.length := length_put _ _ _ _ (by omega) (by omega)
  refine ⟨h.hu, by simp only [h.hf, List.length_append]; omega, hlen.trans hm, fun i hi => ?_⟩
  have ha : at_ ⟨b.una, b.fin + p.length, put b.ring (at_ b b.fin) (upto_ b b.fin p.length) p, b.cap⟩ (una + i) = at_ b (una + i) := by
    show ((una + (i : Int)) % (((put b.ring (at_ b b.fin) (upto_ b b.fin p.length) p).length : Nat) : Int)).toNat = _
    rw [hlen]; rfl
  rw [ha]
  simp only
  rw [put_get b.ring _ _ p.length p _ rfl hk hlt (by omega)]
  rw [List.length_append] at hi
  have hf := h.hf
  rcases Nat.lt_or_ge i B.length with h1 | h1
  · have hs := pos_step b.ring.length (una + i) (B.length - i) hN (by omega)
    rw [show una + (i : Int) + ((B.length - i : Nat) : Int) = b.fin by omega] at hs
    have e1 : at_ b b.fin = (b.fin % (b.ring.length : Int)).toNat := rfl
    have e2 : at_ b (una + i) = ((una + i) % (b.ring.length : Int)).toNat := rfl
    have hf2 := at_lt ho (una + i)
    rw [← e1, ← e2] at hs
    rw [List.getElem?_append_left h1, ← h.ha i h1]
    generalize at_ b b.fin = a at *
    generalize at_ b (una + i) = f at *
    generalize upto_ b b.fin p.length = k at *
    rw [if_neg (by split at hs <;> omega), if_neg (by split at hs <;> omega)]
  · have hs := pos_step b.ring.length b.fin (i - B.length) hN (by omega)
    rw [show b.fin + ((i - B.length : Nat) : Int) = una + i by omega] at hs
    have e1 : at_ b b.fin = (b.fin % (b.ring.length : Int)).toNat := rfl
    have e2 : at_ b (una + i) = ((una + i) % (b.ring.length : Int)).toNat := rfl
    rw [← e1, ← e2] at hs
    rw [List.getElem?_append_right h1]
    generalize at_ b b.fin = a at *
    generalize at_ b (una + i) = f at *
    generalize upto_ b b.fin p.length = k at *
    by_cases h2 : a + (i - B.length) < b.ring.length
    · rw [if_pos h2] at hs
      rw [if_neg (by omega), if_pos (by omega)]
      congr 1; omega
    · rw [if_neg h2] at hs
      rw [if_pos (by omega)]
      congr 1; omega
theorem holds_free {b : Buf} {una : Int} {most : Nat} {B : List Int} (h : Holds b una most B) (t : Int) (h1 : una ≤ t) (h2 : t ≤ una + B.length) :
    Holds ⟨t, b.fin, b.ring, b.cap⟩ t most (B.drop (t - una).toNat) := by
  have hf := h.hf
  refine ⟨rfl, by simp only [List.length_drop]; omega, h.hm, fun i hi => ?_⟩
  rw [List.length_drop] at hi
  have := h.ha ((t - una).toNat + i) (by omega)
  rw [List.getElem?_drop, ← this]
  rw [show una + (((t - una).toNat + i : Nat) : Int) = t + i by omega]
  rfl
theorem window_holds {b : Buf} {una : Int} {most : Nat} {B : List Int} (h : Holds b una most B) (ho : Ok b) (lo : Int) (n : Nat) (h1 : una ≤ lo) (h2 : lo + n ≤ una + B.length) :
    window b lo n = (B.drop (lo - una).toNat).take n := by
  have hlt := at_lt ho lo
  have hN := ho.n0
  have hm := h.hm
  have hf := h.hf
  have hu3 := ho.u3
  have hun := h.hu
  have hk : upto_ b lo n = min n (b.ring.length - at_ b lo) := rfl
  refine List.ext_getElem? fun j => ?_
  rcases Nat.lt_or_ge j n with hj | hj
  · rw [List.getElem?_take_of_lt hj, List.getElem?_drop, ← h.ha _ (by omega)]
    have hs := pos_step b.ring.length lo j hN (by omega)
    have e1 : at_ b lo = (lo % (b.ring.length : Int)).toNat := rfl
    have e2 : at_ b (lo + j) = ((lo + j) % (b.ring.length : Int)).toNat := rfl
    rw [← e1, ← e2] at hs
    rw [show una + (((lo - una).toNat + j : Nat) : Int) = lo + j by omega, hs]
    unfold window
    have el : ((b.ring.drop (at_ b lo)).take (upto_ b lo n)).length = upto_ b lo n := by rw [List.length_take, List.length_drop]; omega
    rcases Nat.lt_or_ge j (upto_ b lo n) with h3 | h3
    · rw [List.getElem?_append_left (by omega), List.getElem?_take_of_lt h3, List.getElem?_drop, if_pos (by omega)]
    · rw [List.getElem?_append_right (by omega), el, List.getElem?_take_of_lt (by omega), if_neg (by omega)]
      congr 1; omega
  · rw [List.getElem?_eq_none (by unfold window; rw [List.length_append, List.length_take, List.length_take, List.length_drop]; omega), List.getElem?_eq_none (by rw [List.length_take]; omega)]
end Go.Proofs.Ytaokiocpfpdmkaa.Buff
