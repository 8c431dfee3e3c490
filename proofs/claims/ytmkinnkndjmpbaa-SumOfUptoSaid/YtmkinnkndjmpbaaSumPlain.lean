/- Chapter 3's sums over plain lists of bytes: no program in them. -/
namespace Go.Proofs.Ytmkinnkndjmpbaa.SumPlain
/-- What goes over is carried round. -/
def canon (n : Int) : Int := if n ≤ 0 then 0 else (n - 1) % 65535 + 1
theorem canon_bd (n : Int) : 0 ≤ canon n ∧ canon n ≤ 65535 := by unfold canon; split <;> omega
theorem canon_add (a b : Int) (ha : 0 ≤ a) (hb : 0 ≤ b) : canon (canon a + b) = canon (a + b) := by
  unfold canon; split <;> split <;> split <;> omega
theorem canon_small (n : Int) (h : 0 ≤ n) (h2 : n ≤ 65535) : canon n = n := by unfold canon; split <;> omega
theorem canon_step (n : Int) (h : 65535 < n) : canon n = canon (n % 65536 + n / 65536) := by unfold canon; split <;> split <;> omega
theorem canon_word (n : Int) (h : 0 ≤ n) (h2 : n ≤ 131070) : n % 65536 + n / 65536 = canon n := by unfold canon; split <;> omega
theorem canon_mod (a b : Int) (ha : 0 ≤ a) (hb : 0 ≤ b) (h : canon a = canon b) : a % 65535 = b % 65535 := by
  unfold canon at h; split at h <;> split at h <;> omega
theorem canon_same (n : Int) (h : 0 ≤ n) : canon n % 65535 = n % 65535 := by unfold canon; split <;> omega
theorem canon_le (n : Int) (h : 0 ≤ n) : canon n ≤ n := by unfold canon; split <;> omega
theorem canon_pos (n : Int) (h : 0 < n) : 0 < canon n := by unfold canon; split <;> omega
def words : List Int → List Int
  | [] => []
  | [h] => [256 * h]
  | h :: l :: t => (256 * h + l) :: words t
def wsum : List Int → Int
  | [] => 0
  | [h] => 256 * h
  | h :: l :: t => 256 * h + l + wsum t
/-- The sum of bytes. -/
def sumOf (l : List Int) : Int := canon (wsum l)
def Bytes (l : List Int) : Prop := ∀ x ∈ l, 0 ≤ x ∧ x ≤ 255
theorem Bytes.tail {a : Int} {l : List Int} (h : Bytes (a :: l)) : Bytes l := fun x hx => h x (by simp [hx])
theorem Bytes.head {a : Int} {l : List Int} (h : Bytes (a :: l)) : 0 ≤ a ∧ a ≤ 255 := h a (by simp)
theorem Bytes.append {a b : List Int} (h : Bytes a) (k : Bytes b) : Bytes (a ++ b) := fun x hx => by
  rcases List.mem_append.1 hx with hx | hx
  · exact h x hx
  · exact k x hx
theorem wsum_nonneg : ∀ (l : List Int), Bytes l → 0 ≤ wsum l
  | [], _ => by simp [wsum]
  | [h], hb => by have := hb.head; simp only [wsum]; omega
  | h :: l :: t, hb => by
    have h1 := hb.head
    have h2 := hb.tail.head
    have := wsum_nonneg t hb.tail.tail
    simp only [wsum]; omega
theorem words_bd : ∀ (l : List Int), Bytes l → ∀ x ∈ words l, 0 ≤ x ∧ x ≤ 65535
  | [], _ => by simp [words]
  | [h], hb => by have := hb.head; simp only [words, List.mem_singleton, forall_eq]; omega
  | h :: l :: t, hb => by
    have h1 := hb.head
    have h2 := hb.tail.head
    intro x hx
    simp only [words, List.mem_cons] at hx
    rcases hx with rfl | hx
    · omega
    · exact words_bd t hb.tail.tail x hx
theorem fold_words : ∀ (l : List Int) (s : Int), Bytes l → 0 ≤ s → List.foldl (fun a b => canon (a + b)) (canon s) (words l) = canon (s + wsum l)
  | [], s, _, hs => by simp [words, wsum]
  | [h], s, hb, hs => by
    have := hb.head
    simp only [words, wsum, List.foldl_cons, List.foldl_nil]
    exact canon_add _ _ hs (by omega)
  | h :: l :: t, s, hb, hs => by
    have h1 := hb.head
    have h2 := hb.tail.head
    simp only [words, wsum, List.foldl_cons]
    rw [canon_add _ _ hs (by omega), fold_words t _ hb.tail.tail (by omega)]
    congr 1; omega
theorem of_words (l : List Int) (hb : Bytes l) : List.foldl (fun a b => canon (a + b)) 0 (words l) = sumOf l := by
  have := fold_words l 0 hb (by omega)
  rw [show canon 0 = 0 from rfl] at this
  rw [this]; simp [sumOf]
theorem wsum_even : ∀ (a b : List Int), a.length % 2 = 0 → wsum (a ++ b) = wsum a + wsum b
  | [], b, _ => by simp [wsum]
  | [h], b, he => by simp at he
  | h :: l :: t, b, he => by
    have := wsum_even t b (by simp only [List.length_cons] at he; omega)
    simp only [List.cons_append, wsum, this]; omega
theorem wsum_odd : ∀ (a : List Int) (c : Int), a.length % 2 = 1 → wsum (a ++ [c]) = wsum a + c
  | [], c, he => by simp at he
  | [h], c, _ => by simp only [List.cons_append, List.nil_append, wsum]; omega
  | h :: l :: t, c, he => by
    have := wsum_odd t c (by simp only [List.length_cons] at he; omega)
    simp only [List.cons_append, wsum, this]; omega
/-- The document's way: byte by byte. -/
theorem ref_step (a : List Int) (c : Int) (ha : Bytes a) (hc : 0 ≤ c ∧ c ≤ 255) : sumOf (a ++ [c]) = canon (sumOf a + (if a.length % 2 = 0 then 256 * c else c)) := by
  have h0 := wsum_nonneg a ha
  unfold sumOf
  split
  · rename_i h
    rw [wsum_even a [c] h, canon_add _ _ h0 (by omega)]; simp [wsum]
  · rename_i h
    rw [wsum_odd a c (by omega), canon_add _ _ h0 (by omega)]
theorem sum_parts (a b : List Int) (ha : Bytes a) (hb : Bytes b) (he : a.length % 2 = 0) : sumOf (a ++ b) = canon (sumOf a + sumOf b) := by
  have h0 := wsum_nonneg a ha
  have h1 := wsum_nonneg b hb
  unfold sumOf
  rw [wsum_even a b he, canon_add _ _ h0 (canon_bd _).1, Int.add_comm (wsum a) (canon _), canon_add _ _ h1 h0, Int.add_comm]
theorem canon_comm (a b : Int) : canon (a + b) = canon (b + a) := by rw [Int.add_comm]
def setWord (l : List Int) (at_ : Nat) (hi lo : Int) : List Int := (l.set (2 * at_) hi).set (2 * at_ + 1) lo
theorem wsum_set : ∀ (l : List Int) (k : Nat) (hi lo : Int), 2 * k + 1 < l.length → wsum (setWord l k hi lo) = wsum l - (256 * l.getD (2 * k) 0 + l.getD (2 * k + 1) 0) + (256 * hi + lo)
  | [], k, hi, lo, h => by simp at h
  | [x], k, hi, lo, h => by simp at h
  | x :: y :: t, 0, hi, lo, h => by
    simp [setWord, wsum]; omega
  | x :: y :: t, k + 1, hi, lo, h => by
    have ih := wsum_set t k hi lo (by simp only [List.length_cons] at h; omega)
    have e : setWord (x :: y :: t) (k + 1) hi lo = x :: y :: setWord t k hi lo := by
      simp only [setWord, show 2 * (k + 1) = 2 * k + 1 + 1 from by omega, List.set_cons_succ]
    rw [e]
    simp only [wsum, ih, show 2 * (k + 1) = 2 * k + 1 + 1 from by omega, List.getD_cons_succ]
    omega
theorem set_bytes (l : List Int) (k : Nat) (hi lo : Int) (hl : Bytes l) (h1 : 0 ≤ hi ∧ hi ≤ 255) (h2 : 0 ≤ lo ∧ lo ≤ 255) : Bytes (setWord l k hi lo) := by
  intro x hx
  unfold setWord at hx
  rcases List.mem_or_eq_of_mem_set hx with hx | rfl
  · rcases List.mem_or_eq_of_mem_set hx with hx | rfl
    · exact hl x hx
    · exact h1
  · exact h2
theorem tells (l : List Int) (k : Nat) (hi lo : Int) (hl : Bytes l) (h1 : 0 ≤ hi ∧ hi ≤ 255) (h2 : 0 ≤ lo ∧ lo ≤ 255) (hk : 2 * k + 1 < l.length)
    (hne : (256 * l.getD (2 * k) 0 + l.getD (2 * k + 1) 0) % 65535 ≠ (256 * hi + lo) % 65535) : sumOf (setWord l k hi lo) ≠ sumOf l := by
  intro h
  have := canon_mod _ _ (wsum_nonneg _ (set_bytes l k hi lo hl h1 h2)) (wsum_nonneg _ hl) h
  rw [wsum_set l k hi lo hk] at this
  omega
theorem tells_same (l : List Int) (k : Nat) (hi lo : Int) (hk : 2 * k + 1 < l.length)
    (he : 256 * l.getD (2 * k) 0 + l.getD (2 * k + 1) 0 = 256 * hi + lo) : sumOf (setWord l k hi lo) = sumOf l := by
  unfold sumOf
  rw [wsum_set l k hi lo hk]
  congr 1; omega
theorem turns (l : List Int) (k : Nat) (hi lo : Int) (hl : Bytes l) (h1 : 0 ≤ hi ∧ hi ≤ 255) (h2 : 0 ≤ lo ∧ lo ≤ 255) (hk : 2 * k + 1 < l.length) (was : Int) (hw : was = 256 * l.getD (2 * k) 0 + l.getD (2 * k + 1) 0) (w0 : 0 ≤ was ∧ was ≤ 65535) :
    (65535 - canon (canon (sumOf l + (65535 - was)) + (256 * hi + lo))) % 65535 = (65535 - sumOf (setWord l k hi lo)) % 65535 := by
  have n0 := wsum_nonneg _ hl
  have n1 := wsum_nonneg _ (set_bytes l k hi lo hl h1 h2)
  unfold sumOf
  rw [canon_add _ _ n0 (by omega), canon_add _ _ (by omega) (by omega)]
  have e := wsum_set l k hi lo hk
  rw [← hw] at e
  have a1 := canon_same (wsum l + (65535 - was) + (256 * hi + lo)) (by omega)
  have a2 := canon_same (wsum (setWord l k hi lo)) n1
  generalize canon (wsum l + (65535 - was) + (256 * hi + lo)) = p at *
  generalize canon (wsum (setWord l k hi lo)) = q at *
  omega
theorem within (l : List Int) (hl : Bytes l) (he : l.length % 2 = 0) (k : Int) (hk : k = 65535 - sumOf l) : sumOf (l ++ [k / 256, k % 256]) = 65535 := by
  have n0 := wsum_nonneg _ hl
  have b := canon_bd (wsum l)
  have s := canon_same (wsum l) n0
  have q := canon_le (wsum l) n0
  unfold sumOf at *
  rw [wsum_even _ _ he]
  simp only [wsum]
  generalize canon (wsum l) = c at *
  unfold canon
  split <;> omega
/-- The words that are whole. -/
def done : List Int → List Int
  | [] => []
  | [_] => []
  | h :: l :: t => (256 * h + l) :: done t
/-- The byte that waits. -/
def pend : List Int → Int
  | [] => 0
  | [h] => h
  | _ :: _ :: t => pend t
theorem done_even : ∀ (p : List Int) (c : Int), p.length % 2 = 0 → done (p ++ [c]) = done p ∧ pend (p ++ [c]) = c
  | [], c, _ => ⟨rfl, rfl⟩
  | [h], c, e => by simp at e
  | h :: l :: t, c, e => by
    have ih := done_even t c (by simp only [List.length_cons] at e; omega)
    exact ⟨by simp only [List.cons_append, done, ih.1], by simp only [List.cons_append, pend, ih.2]⟩
theorem done_odd : ∀ (p : List Int) (c : Int), p.length % 2 = 1 → done (p ++ [c]) = done p ++ [256 * pend p + c]
  | [], c, e => by simp at e
  | [h], c, _ => rfl
  | h :: l :: t, c, e => by
    have ih := done_odd t c (by simp only [List.length_cons] at e; omega)
    simp only [List.cons_append, done, pend, ih]
theorem words_done : ∀ (p : List Int), words p = done p ++ (if p.length % 2 = 1 then [256 * pend p] else [])
  | [] => rfl
  | [h] => rfl
  | h :: l :: t => by
    have ih := words_done t
    simp only [words, done, pend, List.length_cons, List.cons_append, ih]
    by_cases hh : t.length % 2 = 1
    · rw [if_pos hh, if_pos (by omega)]
    · rw [if_neg hh, if_neg (by omega)]
theorem pend_bd : ∀ (p : List Int), Bytes p → 0 ≤ pend p ∧ pend p ≤ 255
  | [], _ => by simp [pend]
  | [h], hb => hb.head
  | h :: l :: t, hb => pend_bd t hb.tail.tail
theorem done_len : ∀ (p : List Int), (done p).length ≤ p.length
  | [] => by simp [done]
  | [h] => by simp [done]
  | h :: l :: t => by
    have := done_len t
    simp only [done, List.length_cons]; omega
end Go.Proofs.Ytmkinnkndjmpbaa.SumPlain
