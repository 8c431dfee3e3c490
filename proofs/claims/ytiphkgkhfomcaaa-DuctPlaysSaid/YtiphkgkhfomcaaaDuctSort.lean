/- Chapter 25 (duct): the sorted keys of a duct's map: maps.Keys and slices.Sorted at a map told by a function. -/
import Derived.Test.YtiphkgkhfomcaaaDuctShelf
import Derived.Test.YtiphkgkhfomcaaaDuct
set_option linter.unusedSimpArgs false
set_option linter.unusedVariables false
namespace Go.Proofs.Ytiphkgkhfomcaaa.Duct
open Go.RowKit Go.Maps Go.Sort Go.Shelf Go.Proofs.Ytiphkgkhfomcaaa.Aid Go.Proofs.Ytiphkgkhfomcaaa.DMap Go.Proofs.Ytiphkgkhfomcaaa.Byt
/-- The numbers below N that have something, ascending. -/
def ids (p : Int → Bool) (N : Nat) : List Int := ((List.range N).map (fun k : Nat => (k : Int))).filter p
theorem mem_ids {p : Int → Bool} {N : Nat} {i : Int} : i ∈ ids p N ↔ (0 ≤ i ∧ i < N) ∧ p i = true := by
  simp only [ids, List.mem_filter, List.mem_map, List.mem_range]
  constructor
  · rintro ⟨⟨k, hk, rfl⟩, hp⟩
    exact ⟨by omega, hp⟩
  · rintro ⟨⟨h1, h2⟩, hp⟩
    exact ⟨⟨i.toNat, by omega, by omega⟩, hp⟩
theorem ids_sorted (p : Int → Bool) (N : Nat) : (ids p N).Pairwise (fun a b => a < b) := by
  refine List.Pairwise.filter _ (List.pairwise_map.2 ?_)
  exact List.pairwise_lt_range.imp (fun h => by omega)
theorem ids_nodup (p : Int → Bool) (N : Nat) : (ids p N).Nodup := (ids_sorted p N).imp (fun h => by omega)
theorem ids_le (p : Int → Bool) (N : Nat) : (ids p N).length ≤ N := by
  have := List.length_filter_le p ((List.range N).map (fun k : Nat => (k : Int)))
  simpa [ids] using this
theorem sort_ids {p : Int → Bool} {N : Nat} {ss : List Int} (h : ss.Perm (ids p N)) : ss.mergeSort (fun x y => decide (x ≤ y)) = ids p N := by
  have h1 : ss.mergeSort leI = (ids p N).mergeSort leI := mergeSort_of_perm_i h
  rw [show (fun x y : Int => decide (x ≤ y)) = leI from rfl, h1]
  refine List.mergeSort_of_pairwise ((ids_sorted p N).imp fun h => ?_)
  simp [leI]
  omega
theorem keys_ids {w : World} {b sz N : Nat} {z : Value} {m : Int → Option Value} {D : DataW Value} (h1 : w.ownsMap Try.prog 3 RV b sz D)
    (h3 : ∀ i, Fits i → Maps.has D (key i) = (m i).isSome) (hr : ∀ i, (m i).isSome = true → 0 ≤ i ∧ i < N) (hN : N ≤ 1000000) : (ids (fun i => (m i).isSome) N).Perm (intKeys D) := by
  obtain ⟨es, hD, hpw, _⟩ := h1.entries keyed3
  obtain ⟨es', hD', hko⟩ := h1.keysOf
  obtain rfl : es = es' := by rw [hD] at hD'; simpa using hD'
  have hwf := intKeys_wf h1 Try.underlying3
  subst hD
  refine perm_intKeys hpw (fun p hp => by obtain ⟨v, hv⟩ := hko p hp; obtain ⟨x, _, hx, _⟩ := Maps.keyOf_i64 Try.underlying3 hv; exact ⟨x, hx⟩) (ids_nodup _ _) (fun x => ?_)
  rw [mem_ids]
  constructor
  · rintro ⟨h0, hm⟩
    exact (h3 x ⟨by omega, by omega⟩).trans hm
  · intro hx
    have hin : x ∈ intKeys (.map es) := by
      rw [has_eq, List.any_eq_true] at hx
      obtain ⟨p, hp', hs⟩ := hx
      obtain ⟨v, hv⟩ := hko p hp'
      obtain ⟨a, _, ha, _⟩ := Maps.keyOf_i64 Try.underlying3 hv
      refine List.mem_map.2 ⟨p, hp', ?_⟩
      rw [ha] at hs ⊢
      exact (by simpa [Lit.sameKey] using hs : a = x)
    have hw := hwf x hin
    have hf : Fits x := by
      simp [Lit.wf, IntKind.min, IntKind.max, IntKind.signed, IntKind.bits] at hw
      exact ⟨by omega, by omega⟩
    have := (h3 x hf).symm.trans hx
    exact ⟨hr x this, this⟩
theorem size_ids {w : World} {b sz N : Nat} {z : Value} {m : Int → Option Value} (h : MapOf w b z m sz) (hr : ∀ i, (m i).isSome = true → 0 ≤ i ∧ i < N) (hN : N ≤ 1000000) : (ids (fun i => (m i).isSome) N).length = sz := by
  obtain ⟨D, h1, h2, h3⟩ := h
  have hp := keys_ids (z := z) h1 (fun i hi => (h3 i hi).1) hr hN
  obtain ⟨es, hD, hpw, _⟩ := h1.entries keyed3
  rw [hp.length_eq, ← h2, hD]
  simp [intKeys, Maps.size]
theorem sorts (F : Fence) (m : Nat) (hF : F = Fence.wide) : AnyZI.SortsIn Try.prog DuctLay.sortedA_ren F m := by
  subst hF
  exact ⟨fun blk off cap ss W hH hblk hsz => callsIn_wide.2 (AnyM.slices_Sort_int DuctLay.sortA blk off cap ss W hH hblk hsz),
   fun p cap W => callsIn_wide.2 (AnyM.slices_Sort_int_none DuctLay.sortA p cap W)⟩
theorem keys_calls (n : Nat) (mb : Option Nat) (W : World) : CallsIn Fence.wide n Try.prog 62 #[.map mb] W fun e w' => e = .returned (.func (.func 71) #[] #[.pointer (some ⟨W.heap.size, 0, Option.none⟩)]) ∧ w' = W.alloc (.cells #[.map mb] 109) :=
  AnyZI.keys_in DuctLay.keysA Fence.wide n trivial rfl mb W
/-- slices.Sorted(maps.Keys(m)) at a map that lies: a new row with its numbers, ascending. -/
theorem sorted_calls (n : Nat) (hn : 5 ≤ n) {w : World} {b sz N : Nat} {z : Value} {m : Int → Option Value} (h : MapOf w b z m sz) (hr : ∀ i, (m i).isSome = true → 0 ≤ i ∧ i < N) (hN : N ≤ 1000000) :
    CallsIn Fence.wide n Try.prog 61 #[.func (.func 71) #[] #[.pointer (some ⟨w.heap.size, 0, Option.none⟩)]] (w.alloc (.cells #[.map (some b)] 109)) fun e w' => ∃ v, e = .returned v ∧
      w'.ownsRow w.heap.size 3 1 v (ids (fun i => (m i).isSome) N).length ((ids (fun i => (m i).isSome) N).map encZ) ∧ Below w.heap.size w w' := by
  have hle := ids_le (fun i => (m i).isSome) N
  have hsz := size_ids h hr hN
  obtain ⟨D0, hown, h2, h3⟩ := h
  have hp := keys_ids (z := z) hown (fun i hi => (h3 i hi).1) hr hN
  have hbl := hown.lt
  have hseq : SeqGives Fence.wide (n - 1 - 1 - 1) Try.prog 71 #[.pointer (some ⟨w.heap.size, 0, Option.none⟩)] encZ (fun ss => ss.Perm (intKeys D0)) (Maps.size D0) (w.alloc (.cells #[.map (some b)] 109)) :=
    AnyZI.keys_gives (ρ := DuctLay.keysA_ren) { DuctLay.keysA with } Fence.wide _ trivial rfl (by omega) w.heap.size b sz D0 _ (by simp) (by simp) (by
      obtain ⟨es, clock, hb, Ft, hs, hD⟩ := hown
      exact ⟨es, clock, (Below.heap_alloc _ _ b hbl).trans hb, Ft, hs, hD⟩)
  have cS := AnyZI.sorted_in DuctLay.sortedA Fence.wide n trivial trivial trivial trivial rfl (by omega) (sorts _ _ rfl) (enters_of Try.func70 (by kernel_rfl) rfl) 71 #[.pointer (some ⟨w.heap.size, 0, Option.none⟩)] trivial (enters_of Try.func71 (by kernel_rfl) rfl) _ _ (by rw [h2, ← hsz]; unfold maxLen; omega) (by rw [h2, ← hsz]; omega) _ hseq
  change CallsIn _ _ Try.prog 61 _ _ _ at cS
  refine cS.mono ?_
  rintro e w' ⟨v, ss, rfl, hS, hrow, hnil, hb⟩
  have hss : ss.Perm (ids (fun i => (m i).isSome) N) := hS.trans hp.symm
  rw [sort_ids hss, hss.length_eq] at hrow
  exact ⟨v, rfl, ownsRow_base_a hrow (by simp), ((Below.refl _ w).alloc (Nat.le_refl _) _).trans (hb.mono (by simp))⟩
end Go.Proofs.Ytiphkgkhfomcaaa.Duct
