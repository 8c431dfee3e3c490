/- A heap kept in a list: what moving up and down makes of it. No program in it, no conditions of ours. -/
import Derived.Test.YtiphkgkhfomcaaaMap
set_option linter.unusedSimpArgs false
set_option linter.unusedVariables false
namespace Go.Proofs.Ytiphkgkhfomcaaa.Heap
structure Ring where
  at_ : Int
  name : Int
deriving Inhabited, DecidableEq
def lt (a b : Ring) : Prop := a.at_ < b.at_ ∨ (a.at_ = b.at_ ∧ a.name < b.name)
theorem lt_asymm {a b : Ring} (h : lt a b) : ¬ lt b a := by unfold lt at *; omega
theorem ge_trans {a b c : Ring} (h : ¬ lt b a) (k : ¬ lt c b) : ¬ lt c a := by unfold lt at *; omega
theorem lt_ge {a b c : Ring} (h : lt a b) (k : ¬ lt c b) : ¬ lt c a := by unfold lt at *; omega
section
variable {f f' : Nat → Ring} {i j n : Nat}
def Ok (f : Nat → Ring) (k : Nat) : Prop := ¬ lt (f k) (f ((k - 1) / 2))
def Gr (f : Nat → Ring) (i n : Nat) : Prop := ∀ k, 0 < k → k < n → (k - 1) / 2 = i → 0 < i → ¬ lt (f k) (f ((i - 1) / 2))
def Both (f : Nat → Ring) (i n : Nat) : Prop := (∀ k, 0 < k → k < n → k ≠ i → (k - 1) / 2 ≠ i → Ok f k) ∧ Gr f i n
def UpI (f : Nat → Ring) (i n : Nat) : Prop := (∀ k, 0 < k → k < n → k ≠ i → Ok f k) ∧ Gr f i n
def DownI (f : Nat → Ring) (i n : Nat) : Prop := (∀ k, 0 < k → k < n → (k - 1) / 2 ≠ i → Ok f k) ∧ Gr f i n
def Heap (f : Nat → Ring) (n : Nat) : Prop := ∀ k, 0 < k → k < n → Ok f k
/-- f' is f with two places changed about. -/
structure Sw (f f' : Nat → Ring) (i j : Nat) : Prop where
  a : f' i = f j
  b : f' j = f i
  r : ∀ k, k ≠ i → k ≠ j → f' k = f k
theorem Heap.both {i : Nat} (h : Heap f n) (i : Nat) (hi : i < n) : Both f i n := ⟨fun k a b _ _ => h k a b, fun k a b c d => by
  have h1 := h k a b
  have h2 := h i d hi
  unfold Ok at h1 h2
  rw [c] at h1
  exact ge_trans h2 h1⟩
theorem heap_last (h : Heap f (n + 1)) (hs : Sw f f' i n) (hi : i < n) : Both f' i n := by
  refine ⟨fun k a b c d => ?_, fun k a b c d => ?_⟩
  · have := h k a (by omega)
    unfold Ok at *
    rw [hs.r k c (by omega), hs.r ((k - 1) / 2) d (by omega)]
    exact this
  · have h1 := h k a (by omega)
    have h2 := h i d (by omega)
    unfold Ok at *
    rw [hs.r k (by omega) (by omega), hs.r ((i - 1) / 2) (by omega) (by omega)]
    rw [c] at h1
    exact ge_trans h2 h1
theorem DownI.both (h : DownI f i n) : Both f i n := ⟨fun k a b _ d => h.1 k a b d, h.2⟩
theorem both_step (h : Both f i n) (hj : 0 < j) (hjn : j < n) (hp : (j - 1) / 2 = i) (hmin : ∀ k, 0 < k → k < n → (k - 1) / 2 = i → ¬ lt (f k) (f j)) (hl : lt (f j) (f i)) (hs : Sw f f' i j) : DownI f' j n := by
  refine ⟨fun k a b c => ?_, fun k a b c d => ?_⟩
  · unfold Ok
    by_cases e : k = j
    · subst e
      rw [hs.b, hp, hs.a]
      exact lt_asymm hl
    · by_cases e2 : (k - 1) / 2 = i
      · rw [e2, hs.a, hs.r k (by omega) e]
        exact hmin k a b e2
      · by_cases e3 : k = i
        · subst e3
          rw [hs.a, hs.r ((k - 1) / 2) (by omega) (by omega)]
          exact h.2 j hj hjn hp (by omega)
        · rw [hs.r k e3 e, hs.r ((k - 1) / 2) e2 c]
          exact h.1 k a b e3 e2
  · rw [hp, hs.a, hs.r k (by omega) (by omega)]
    have := h.1 k a b (by omega) (by omega)
    unfold Ok at this
    rw [c] at this
    exact this
theorem both_stop (h : Both f i n) (hk : ∀ k, 0 < k → k < n → (k - 1) / 2 = i → ¬ lt (f k) (f i)) : UpI f i n := ⟨fun k a b c => by
  by_cases e : (k - 1) / 2 = i
  · have := hk k a b e
    unfold Ok
    rw [e]
    exact this
  · exact h.1 k a b c e, h.2⟩
theorem down_stop (h : DownI f i n) (hk : ∀ k, 0 < k → k < n → (k - 1) / 2 = i → ¬ lt (f k) (f i)) : Heap f n := fun k a b => by
  by_cases e : (k - 1) / 2 = i
  · have := hk k a b e
    unfold Ok
    rw [e]
    exact this
  · exact h.1 k a b e
theorem up_stop (h : UpI f i n) (hk : i = 0 ∨ ¬ lt (f i) (f ((i - 1) / 2))) : Heap f n := fun k a b => by
  by_cases e : k = i
  · subst e
    rcases hk with hk | hk
    · omega
    · exact hk
  · exact h.1 k a b e
theorem up_step (h : UpI f i n) (hi : 0 < i) (hin : i < n) (hp : (i - 1) / 2 = j) (hl : lt (f i) (f j)) (hs : Sw f f' j i) : UpI f' j n := by
  refine ⟨fun k a b c => ?_, fun k a b c d => ?_⟩
  · unfold Ok
    by_cases e : k = i
    · subst e
      rw [hs.b, hp, hs.a]
      exact lt_asymm hl
    · by_cases e2 : (k - 1) / 2 = j
      · rw [e2, hs.a, hs.r k c e]
        have := h.1 k a b e
        unfold Ok at this
        rw [e2] at this
        exact lt_ge hl this
      · by_cases e3 : (k - 1) / 2 = i
        · rw [e3, hs.b, hs.r k c e]
          have := h.2 k a b e3 hi
          rw [hp] at this
          exact this
        · rw [hs.r k c e, hs.r ((k - 1) / 2) e2 e3]
          exact h.1 k a b e
  · have hjn : j < n := by omega
    have hj2 := h.1 j d hjn (by omega)
    unfold Ok at hj2
    rw [hs.r ((j - 1) / 2) (by omega) (by omega)]
    by_cases e : k = i
    · subst e
      rw [hs.b]
      exact hj2
    · rw [hs.r k (by omega) e]
      have := h.1 k a b e
      unfold Ok at this
      rw [c] at this
      exact ge_trans hj2 this
theorem Heap.push (h : Heap f n) (hf : ∀ k, k < n → f' k = f k) : UpI f' n (n + 1) := ⟨fun k a b c => by
  unfold Ok
  rw [hf k (by omega), hf ((k - 1) / 2) (by omega)]
  exact h k a (by omega), fun k a b c d => by omega⟩
theorem Heap.root (h : Heap f n) : ∀ k, k < n → ¬ lt (f k) (f 0) := by
  intro k
  induction k using Nat.strongRecOn with
  | ind k ih =>
    intro hk
    by_cases e : k = 0
    · subst e
      unfold lt
      omega
    · exact ge_trans (ih ((k - 1) / 2) (by omega) (by omega)) (h k (by omega) hk)
theorem Heap.less (h : Heap f n) {m : Nat} (hm : m ≤ n) : Heap f m := fun k a b => h k a (by omega)
theorem Heap.same (h : Heap f n) (hf : ∀ k, k < n → f' k = f k) : Heap f' n := fun k a b => by
  unfold Ok
  rw [hf k b, hf ((k - 1) / 2) (by omega)]
  exact h k a b
end
abbrev g (l : List Ring) (k : Nat) : Ring := l.getD k default
def swap (l : List Ring) (i j : Nat) : List Ring := (l.set i (g l j)).set j (g l i)
theorem swap_length (l : List Ring) (i j : Nat) : (swap l i j).length = l.length := by simp [swap]
theorem getD_set (l : List Ring) (i k : Nat) (x : Ring) : g (l.set i x) k = if k = i ∧ i < l.length then x else g l k := by
  simp only [g, List.getD_eq_getElem?_getD, List.getElem?_set]
  by_cases h : i = k
  · subst h
    by_cases h2 : i < l.length
    · simp [h2]
    · simp [h2, List.getElem?_eq_none (by omega : l.length ≤ i)]
  · simp [h, Ne.symm h]
theorem swap_sw {l : List Ring} {i j : Nat} (hi : i < l.length) (hj : j < l.length) : Sw (g l) (g (swap l i j)) i j := by
  refine ⟨?_, ?_, fun k a b => ?_⟩
  · simp only [swap, getD_set, List.length_set, hi, hj, and_true]
    by_cases e : i = j
    · subst e; simp
    · simp [e]
  · simp only [swap, getD_set, List.length_set, hi, hj, and_true, if_true]
  · simp only [swap, getD_set, List.length_set, hi, hj, and_true, a, b, if_false]
theorem get_g {l : List Ring} {k : Nat} (h : k < l.length) : l[k]? = some (g l k) := by simp [g, List.getD_eq_getElem?_getD, h]
theorem g_get {l : List Ring} {k : Nat} {x : Ring} (h : l[k]? = some x) : g l k = x := by simp [g, List.getD_eq_getElem?_getD, h]
/-- The places of the alarms by their names. -/
structure Plc (m : Int → Option Value) (l : List Ring) : Prop where
  at_ : ∀ k, k < l.length → m (g l k).name = some (.int .i64 k)
  only : ∀ nm, (m nm).isSome = true → ∃ k, k < l.length ∧ (g l k).name = nm
theorem Plc.inj {m : Int → Option Value} {l : List Ring} (h : Plc m l) {i j : Nat} (hi : i < l.length) (hj : j < l.length) (e : (g l i).name = (g l j).name) : i = j := by
  have h1 := h.at_ i hi
  rw [e, h.at_ j hj] at h1
  simp only [Option.some.injEq, Value.int.injEq, true_and] at h1
  omega
theorem Plc.none {m : Int → Option Value} {l : List Ring} (h : Plc m l) {nm : Int} (hn : ∀ k, k < l.length → (g l k).name ≠ nm) : m nm = Option.none := by
  cases hm : m nm with
  | none => rfl
  | some v =>
    obtain ⟨k, a, b⟩ := h.only nm (by rw [hm]; rfl)
    exact absurd b (hn k a)
theorem plc_swap {m : Int → Option Value} {l : List Ring} {i j : Nat} (h : Plc m l) (hi : i < l.length) (hj : j < l.length) (hij : i ≠ j) :
    Plc (DMap.put (DMap.put m (g (swap l i j) i).name (.int .i64 i)) (g (swap l i j) j).name (.int .i64 j)) (swap l i j) := by
  have S := swap_sw hi hj
  have hne : (g l i).name ≠ (g l j).name := fun e => hij (h.inj hi hj e)
  refine ⟨fun k hk => ?_, fun nm hn => ?_⟩
  · rw [swap_length] at hk
    by_cases e : k = j
    · subst e
      simp [DMap.put]
    · by_cases e2 : k = i
      · subst e2
        rw [S.a, S.b]
        simp only [DMap.put, if_true]
        rw [if_neg (fun e => hne e.symm)]
      · rw [S.r k e2 e, S.a, S.b]
        simp only [DMap.put]
        rw [if_neg (fun e3 => e2 (h.inj hk hi e3)), if_neg (fun e3 => e (h.inj hk hj e3))]
        exact h.at_ k hk
  · simp only [swap_length]
    by_cases e : nm = (g (swap l i j) j).name
    · exact ⟨j, hj, e.symm⟩
    · by_cases e2 : nm = (g (swap l i j) i).name
      · exact ⟨i, hi, e2.symm⟩
      · simp only [DMap.put, e, e2, if_false] at hn
        obtain ⟨k, a, b⟩ := h.only nm hn
        by_cases e3 : k = i
        · subst e3; rw [S.b] at e; exact absurd b.symm e
        · by_cases e4 : k = j
          · subst e4; rw [S.a] at e2; exact absurd b.symm e2
          · exact ⟨k, a, by rw [S.r k e3 e4]; exact b⟩
theorem g_app_lt {l : List Ring} {x : Ring} {k : Nat} (h : k < l.length) : g (l ++ [x]) k = g l k := by simp [g, List.getD_eq_getElem?_getD, List.getElem?_append_left h]
theorem g_app_eq {l : List Ring} {x : Ring} : g (l ++ [x]) l.length = x := by simp [g, List.getD_eq_getElem?_getD]
theorem plc_push {m : Int → Option Value} {l : List Ring} {x : Ring} (h : Plc m l) (hx : m x.name = Option.none) : Plc (DMap.put m x.name (.int .i64 l.length)) (l ++ [x]) := by
  refine ⟨fun k hk => ?_, fun nm hn => ?_⟩
  · simp only [List.length_append, List.length_cons, List.length_nil, Nat.zero_add] at hk
    by_cases e : k = l.length
    · subst e
      rw [g_app_eq]
      simp [DMap.put]
    · have hk2 : k < l.length := by omega
      rw [g_app_lt hk2]
      have := h.at_ k hk2
      simp only [DMap.put]
      rw [if_neg (fun e => by rw [e, hx] at this; cases this)]
      exact this
  · by_cases e : nm = x.name
    · exact ⟨l.length, by simp, by rw [g_app_eq, e]⟩
    · simp only [DMap.put, e, if_false] at hn
      obtain ⟨k, a, b⟩ := h.only nm hn
      exact ⟨k, by simp; omega, by rw [g_app_lt a]; exact b⟩
theorem g_take {l : List Ring} {n k : Nat} (h : k < n) : g (l.take n) k = g l k := by simp [g, List.getD_eq_getElem?_getD, List.getElem?_take, h]
theorem plc_pop {m : Int → Option Value} {l : List Ring} {n : Nat} (h : Plc m l) (hn : l.length = n + 1) : Plc (DMap.del m (g l n).name) (l.take n) := by
  have hl : (l.take n).length = n := by simp; omega
  refine ⟨fun k hk => ?_, fun nm hs => ?_⟩
  · rw [hl] at hk
    rw [g_take hk]
    simp only [DMap.del]
    rw [if_neg (fun e => by have := h.inj (by omega) (by omega) e; omega)]
    exact h.at_ k (by omega)
  · simp only [DMap.del] at hs
    split at hs
    · simp at hs
    · obtain ⟨k, a, b⟩ := h.only nm hs
      by_cases e : k = n
      · subst e; rename_i h2; exact absurd b.symm h2
      · exact ⟨k, by omega, by rw [g_take (by omega)]; exact b⟩
/-- What is set (the numbers of rings by their names; below 0: not set), as it lies in the heap. -/
structure Rep (l : List Ring) (A : List Int) : Prop where
  of_ : ∀ k, k < l.length → ∃ nm : Nat, (g l k).name = nm ∧ A[nm]? = some (g l k).at_ ∧ 0 ≤ (g l k).at_
  all : ∀ (nm : Nat) (a : Int), A[nm]? = some a → 0 ≤ a → ∃ k, k < l.length ∧ g l k = ⟨a, nm⟩
theorem rep_swap {l : List Ring} {A : List Int} {i j : Nat} (h : Rep l A) (hi : i < l.length) (hj : j < l.length) : Rep (swap l i j) A := by
  have S := swap_sw hi hj
  refine ⟨fun k hk => ?_, fun nm a h1 h2 => ?_⟩
  · rw [swap_length] at hk
    by_cases e : k = i
    · subst e; rw [S.a]; exact h.of_ j hj
    · by_cases e2 : k = j
      · subst e2; rw [S.b]; exact h.of_ i hi
      · rw [S.r k e e2]; exact h.of_ k hk
  · obtain ⟨k, hk, e⟩ := h.all nm a h1 h2
    simp only [swap_length]
    by_cases e1 : k = i
    · subst e1; exact ⟨j, hj, by rw [S.b]; exact e⟩
    · by_cases e2 : k = j
      · subst e2; exact ⟨i, hi, by rw [S.a]; exact e⟩
      · exact ⟨k, hk, by rw [S.r k e1 e2]; exact e⟩
theorem rep_push {l : List Ring} {A : List Int} {nm : Nat} {a b : Int} (h : Rep l A) (hA : A[nm]? = some b) (hb : b < 0) (ha : 0 ≤ a) : Rep (l ++ [⟨a, nm⟩]) (A.set nm a) := by
  have hl : nm < A.length := (List.getElem?_eq_some_iff.1 hA).1
  refine ⟨fun k hk => ?_, fun q c h1 h2 => ?_⟩
  · simp only [List.length_append, List.length_cons, List.length_nil, Nat.zero_add] at hk
    by_cases e : k = l.length
    · subst e
      rw [g_app_eq]
      exact ⟨nm, rfl, by simp [hl], ha⟩
    · rw [g_app_lt (by omega)]
      obtain ⟨q, e1, e2, e3⟩ := h.of_ k (by omega)
      refine ⟨q, e1, ?_, e3⟩
      rw [List.getElem?_set_ne (fun e4 => by subst e4; rw [hA] at e2; injection e2 with e2; omega)]
      exact e2
  · by_cases e : nm = q
    · subst e
      rw [List.getElem?_set_self hl] at h1
      injection h1 with h1
      subst h1
      exact ⟨l.length, by simp, g_app_eq⟩
    · rw [List.getElem?_set_ne e] at h1
      obtain ⟨k, hk, e2⟩ := h.all q c h1 h2
      exact ⟨k, by simp; omega, by rw [g_app_lt hk]; exact e2⟩
theorem rep_pop {m : Int → Option Value} {l : List Ring} {A : List Int} {n nm : Nat} (hp : Plc m l) (h : Rep l A) (hn : l.length = n + 1) (hm : (g l n).name = nm) : Rep (l.take n) (A.set nm (-1)) := by
  have hl : (l.take n).length = n := by simp; omega
  refine ⟨fun k hk => ?_, fun q c h1 h2 => ?_⟩
  · rw [hl] at hk
    rw [g_take hk]
    obtain ⟨q, e1, e2, e3⟩ := h.of_ k (by omega)
    refine ⟨q, e1, ?_, e3⟩
    rw [List.getElem?_set_ne (fun e => by subst e; have := hp.inj (i := n) (j := k) (by omega) (by omega) (by rw [hm, e1]); omega)]
    exact e2
  · by_cases e : nm = q
    · subst e
      have hA : nm < A.length := by have := (List.getElem?_eq_some_iff.1 h1).1; simpa using this
      rw [List.getElem?_set_self hA] at h1
      injection h1 with h1
      omega
    · rw [List.getElem?_set_ne e] at h1
      obtain ⟨k, hk, e2⟩ := h.all q c h1 h2
      have : k ≠ n := fun e3 => by subst e3; rw [e2] at hm; simp at hm; omega
      exact ⟨k, by omega, by rw [g_take (by omega)]; exact e2⟩
def isSet (a : Int) : Bool := decide (0 ≤ a)
def cnt (A : List Int) : Nat := A.countP isSet
theorem cnt_le (A : List Int) : cnt A ≤ A.length := List.countP_le_length
theorem cnt_on {A : List Int} {nm : Nat} {a b : Int} (hA : A[nm]? = some b) (hb : b < 0) (ha : 0 ≤ a) : cnt (A.set nm a) = cnt A + 1 := by
  obtain ⟨hl, e⟩ := List.getElem?_eq_some_iff.1 hA
  have h1 : isSet b = false := by simp [isSet]; omega
  have h2 : isSet a = true := by simp [isSet]; omega
  unfold cnt
  rw [List.countP_set hl, e, h1, h2]
  simp
theorem cnt_off {A : List Int} {nm : Nat} {b : Int} (hA : A[nm]? = some b) (hb : 0 ≤ b) : cnt (A.set nm (-1)) + 1 = cnt A := by
  obtain ⟨hl, e⟩ := List.getElem?_eq_some_iff.1 hA
  have h1 : isSet b = true := by simp [isSet]; omega
  have h3 := @List.countP_pos_iff Int A isSet
  have h4 : 0 < A.countP isSet := h3.2 ⟨b, List.mem_of_getElem? hA, h1⟩
  unfold cnt
  rw [List.countP_set hl, e, h1]
  simp [isSet]
  have h5 : 0 < List.countP (fun a => decide (0 ≤ a)) A := h4
  show List.countP isSet A - 1 + 1 = _
  unfold isSet
  omega
end Go.Proofs.Ytiphkgkhfomcaaa.Heap
