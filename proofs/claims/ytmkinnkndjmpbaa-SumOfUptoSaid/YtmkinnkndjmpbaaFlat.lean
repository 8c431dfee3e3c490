/- Slices that read as lists of plain values, their cells one behind the other. No program in it. -/
import Derived.Test.YtmkinnkndjmpbaaAid
import Derived.ArgAppend
import Derived.Deep.AppendLies
import Derived.Maps.AppendAt
namespace Go.Proofs.Ytmkinnkndjmpbaa.Aid
open Go.RowKit
section
variable {α : Type} {enc : α → List Value} {sz : Nat}
theorem flat_len (hsz : ∀ x, (enc x).length = sz) : ∀ xs : List α, (xs.flatMap enc).length = xs.length * sz
  | [] => by simp
  | x :: t => by simp only [List.flatMap_cons, List.length_append, hsz, flat_len hsz t, List.length_cons, Nat.succ_mul]; omega
theorem flat_at (hsz : ∀ x, (enc x).length = sz) : ∀ (xs : List α) (i : Nat) (x : α) (j : Nat) (v : Value), xs[i]? = some x → (enc x)[j]? = some v → (xs.flatMap enc)[i * sz + j]? = some v
  | [], i, x, j, v, h, _ => by simp at h
  | y :: t, 0, x, j, v, h, hv => by
    have e : y = x := by simpa using h
    subst e
    have hj : j < (enc y).length := (List.getElem?_eq_some_iff.1 hv).1
    rw [List.flatMap_cons, Nat.zero_mul, Nat.zero_add, List.getElem?_append_left hj]
    exact hv
  | y :: t, i + 1, x, j, v, h, hv => by
    have h' : t[i]? = some x := by simpa using h
    have ih := flat_at hsz t i x j v h' hv
    rw [List.flatMap_cons, List.getElem?_append_right (by rw [hsz, Nat.succ_mul]; omega), hsz, Nat.succ_mul]
    rw [show i * sz + sz + j - sz = i * sz + j from by omega]
    exact ih
theorem flat_inv (hsz : ∀ x, (enc x).length = sz) (h0 : 0 < sz) : ∀ (xs : List α) (j : Nat) (v : Value), (xs.flatMap enc)[j]? = some v → ∃ (i k : Nat) (x : α), j = i * sz + k ∧ xs[i]? = some x ∧ (enc x)[k]? = some v
  | [], j, v, h => by simp at h
  | y :: t, j, v, h => by
    rw [List.flatMap_cons] at h
    by_cases hj : j < sz
    · rw [List.getElem?_append_left (by rw [hsz]; exact hj)] at h
      exact ⟨0, j, y, by omega, by simp, h⟩
    · rw [List.getElem?_append_right (by rw [hsz]; omega), hsz] at h
      obtain ⟨i, k, x, e, hx, hv⟩ := flat_inv hsz h0 t (j - sz) v h
      exact ⟨i + 1, k, x, by rw [Nat.succ_mul]; omega, by simpa using hx, hv⟩
theorem add_off (a : Addr) (i j : Nat) : (a.add i).add j = a.add (i + j) := by
  unfold Addr.add
  by_cases hi : i = 0 <;> by_cases hj : j = 0 <;> simp [hi, hj, Nat.add_assoc]
theorem add_block (a : Addr) (n : Nat) : (a.add n).block = a.block := by unfold Addr.add; split <;> rfl
variable {w w' : World} {A : Option Addr} {xs : List α}
theorem Reps.cells (h : Reps w A sz enc xs) (hsz : ∀ x, (enc x).length = sz) (h0 : 0 < sz) : ∀ b, A = some b → ∀ j u, (xs.flatMap enc)[j]? = some u → w.cell? (b.add j) = some u := by
  intro b hb j u hu
  obtain ⟨i, k, x, rfl, hx, hv⟩ := flat_inv hsz h0 xs j u hu
  obtain ⟨ad, e, _, hc⟩ := h i x hx
  rw [hb] at e
  cases e
  exact hc k u hv
theorem Reps.own {base e n cap g : Nat} (h : w.ownsRow base e sz (.slice (some ⟨g, 0, none⟩) n cap) n (xs.flatMap enc)) (hsz : ∀ x, (enc x).length = sz) : Reps w (some ⟨g, 0, none⟩) sz enc xs := by
  intro i x hx
  exact ⟨_, rfl, (h.lt g rfl).2, fun j v hv => h.cells rfl _ _ (flat_at hsz xs i x j v hx hv)⟩
theorem Reps.take (h : Reps w A sz enc xs) (k : Nat) : Reps w A sz enc (xs.take k) := by
  intro i x hx
  rw [List.getElem?_take] at hx
  split at hx
  · exact h i x hx
  · cases hx
theorem Reps.drop {ad : Addr} (h : Reps w (some ad) sz enc xs) (k : Nat) : Reps w (some (ad.add (k * sz))) sz enc (xs.drop k) := by
  intro i x hx
  rw [List.getElem?_drop] at hx
  obtain ⟨ad', e, hl, hc⟩ := h (k + i) x hx
  cases e
  refine ⟨_, rfl, by rw [add_block]; exact hl, fun j v hv => ?_⟩
  rw [add_off, show k * sz + (i * sz + j) = (k + i) * sz + j from by rw [Nat.add_mul]; omega]
  exact hc j v hv
theorem Reps.nil (w : World) (A : Option Addr) (sz : Nat) (enc : α → List Value) : Reps w A sz enc [] := by
  intro i x hx
  simp at hx
theorem Reps.keep (h : Reps w A sz enc xs) (hs : w.heap.size ≤ w'.heap.size) (hk : ∀ ad, A = some ad → ad.block < w.heap.size → w'.heap[ad.block]? = w.heap[ad.block]?) : Reps w' A sz enc xs := by
  intro i x hx
  obtain ⟨ad, e, hl, hc⟩ := h i x hx
  refine ⟨ad, e, Nat.lt_of_lt_of_le hl hs, fun j v hv => ?_⟩
  rw [World.cell?_of_block (w := w) (by rw [add_block]; exact hk ad e hl)]
  exact hc j v hv
theorem Reps.grown {row : Option Nat} (h : Reps w A sz enc xs) (hg : w.grownBy w' row) (hr : ∀ ad, A = some ad → some ad.block ≠ row) : Reps w' A sz enc xs :=
  h.keep hg.size fun ad e hl => hg.block _ hl (hr ad e)
theorem Reps.drew (h : Reps w A sz enc xs) : Reps w.drew A sz enc xs := h
theorem Reps.drewN (h : Reps w A sz enc xs) (n : Nat) : Reps (w.drewN n) A sz enc xs := h
theorem Reps.alloc (h : Reps w A sz enc xs) (o : Obj) : Reps (w.alloc o) A sz enc xs := h.below ((Below.refl _ w).alloc (Nat.le_refl _) o)
theorem Reps.set_ (h : Reps w A sz enc xs) {p : Addr} (hp : ∀ ad, A = some ad → ad.block ≠ p.block) (u : Value) : Reps (w.setCell p u) A sz enc xs :=
  h.keep (by simp [World.setCell]) fun ad e _ => Below.heap_setCell w p u _ (hp ad e)
theorem Reps.at_ (h : Reps w A sz enc xs) {i : Nat} {x : α} (hx : xs[i]? = some x) : ∃ ad, A = some ad ∧ ad.block < w.heap.size ∧ ∀ (j : Nat) (v : Value), (enc x)[j]? = some v → w.cell? (ad.add (i * sz + j)) = some v := h i x hx
end
theorem blk_cells (w : World) (g : Nat) (t : TypeId) (cs : Array Value) (h : Blk w g t cs) : ∀ j u, cs.toList[j]? = some u → w.cell? ((⟨g, 0, none⟩ : Addr).add j) = some u := by
  intro j u hu
  have e : (⟨g, 0, none⟩ : Addr).add j = ⟨g, j, none⟩ := by unfold Addr.add; split <;> simp_all
  rw [e, h.cell]
  simpa using hu
theorem row_blk {w : World} {base e sz n cap g : Nat} {xs : List Value} (h : w.ownsRow base e sz (.slice (some ⟨g, 0, none⟩) n cap) n xs) : ∃ cs, Blk w g e cs := by
  rcases h.2 with ⟨h, _⟩ | ⟨g', cap', cur, hv, _, hh, _⟩
  · cases h
  · injection hv with h1 h2 h3
    injection h1 with h1
    injection h1 with h1
    exact ⟨cur, by unfold Blk; rw [h1]; exact hh⟩
theorem Blk.ne_ {w : World} {g g' : Nat} {t t' : TypeId} {cs cs' : Array Value} (h : Blk w g t cs) (h' : Blk w g' t' cs') (hne : t ≠ t') : g ≠ g' := by
  rintro rfl
  unfold Blk at h h'
  rw [h] at h'
  injection h' with h'
  injection h' with _ ht
  exact hne ht
theorem own_blk_ne {w : World} {base n sz g : Nat} {e t : TypeId} {v : Value} {xs : List Value} {cs : Array Value} (h : w.ownsRow base e sz v n xs) (hg : Blk w g t cs) (hne : e ≠ t) : v.ownBlock ≠ some g := by
  rcases h.2 with ⟨rfl, _⟩ | ⟨g', cap, cur, rfl, _, hh, _⟩
  · simp [Value.ownBlock]
  · intro he
    have : g' = g := by simpa [Value.ownBlock] using he
    subst this
    exact Blk.ne_ (t := e) hh hg hne rfl
/-- A row of the call's own, nil let in, reads as its list. -/
theorem own_reads {α : Type} {enc : α → List Value} {sz : Nat} {w : World} {base n : Nat} {e : TypeId} {v : Value} {xs : List α} (h : w.ownsRow base e sz v n (xs.flatMap enc)) (hsz : ∀ x, (enc x).length = sz) (h0 : 0 < sz) : ∃ A c, v = .slice A n c ∧ n ≤ c ∧ Reps w A sz enc xs ∧ xs.length = n := by
  have hl : xs.length = n := by
    have := h.1
    rw [flat_len hsz] at this
    exact Nat.eq_of_mul_eq_mul_right h0 this
  rcases h.2 with ⟨rfl, rfl⟩ | ⟨g, cap, cur, rfl, hb, hh, hle, hm, hs, ht⟩
  · have : xs = [] := List.eq_nil_of_length_eq_zero hl
    subst this
    exact ⟨none, 0, rfl, Nat.le_refl _, Reps.nil _ _ _ _, rfl⟩
  · exact ⟨_, cap, rfl, hle, Reps.own h hsz, hl⟩
end Go.Proofs.Ytmkinnkndjmpbaa.Aid
