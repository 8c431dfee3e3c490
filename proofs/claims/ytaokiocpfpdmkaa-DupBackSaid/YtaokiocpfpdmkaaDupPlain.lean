/- Chapter 10 (dup), plain: what is told lies in the window; what is told in blocks is told again. -/
import Derived.Test.YtaokiocpfpdmkaaLookRef2
set_option linter.unusedSimpArgs false
set_option linter.unusedVariables false
namespace Go.Proofs.Ytaokiocpfpdmkaa.Dups
open Go.RowKit Go.Proofs.Ytaokiocpfpdmkaa.Aid Go.Proofs.Ytaokiocpfpdmkaa.Spans
/-- Why nothing is told: nothing is. -/
theorem look_no {una nxt num : Int} {l : List Block} (h : (look una nxt num l).2 ≠ 0) : (look una nxt num l).1 = zero := by
  unfold look at h ⊢
  split at h
  · rename_i h1; rw [if_pos h1]
  · rename_i h1
    rw [if_neg h1]
    split at h
    · rename_i h2; rw [if_pos h2]
    · rename_i h2
      rw [if_neg h2]
      split at h
      · rename_i h3; rw [if_pos h3]
      · exact absurd rfl h
theorem look_yes {una nxt num : Int} {l : List Block} (h : (look una nxt num l).2 = 0) :
    (look una nxt num l).1 = tells (unw una num) nxt l ∧ 0 ≤ unw una num ∧ una - unw una num ≤ 65536 ∧ unw una num ≤ nxt ∧ 0 ≤ una ∧ una ≤ nxt ∧ nxt ≤ 4611686018427387904 := by
  unfold look at h ⊢
  split at h
  · exact absurd h (by decide)
  · rename_i h1
    rw [if_neg h1]
    split at h
    · exact absurd h (by decide)
    · rename_i h2
      rw [if_neg h2]
      split at h
      · exact absurd h (by decide)
      · rename_i h3
        rw [if_neg h3]
        refine ⟨rfl, ?_⟩
        omega
theorem sacks_in {ack nxt : Int} {l : List Block} {s : Span} (h : s ∈ sacksOf ack nxt l) : 0 < len s ∧ ack < s.lo ∧ s.hi ≤ nxt := by
  obtain ⟨b, hb, rfl⟩ := List.mem_map.1 h
  obtain ⟨_, hg⟩ := List.mem_filter.1 hb
  simp only [good, Bool.and_eq_true, decide_eq_true_eq] at hg
  obtain ⟨hF, h1, h2⟩ := hg
  obtain ⟨a, b', c, _, _⟩ := isF_fsp hF
  rw [len_of a b' c]
  exact ⟨by omega, h1, h2⟩
theorem count_all (ack nxt : Int) (l : List Block) : (tells ack nxt l).sacks.length + (tells ack nxt l).bad + (if isT ack nxt l = true then 1 else 0) = l.length := by
  have h := sacks_len ack nxt (rest ack nxt l)
  have e : (tells ack nxt l).sacks = sacksOf ack nxt (rest ack nxt l) := rfl
  have e2 : (tells ack nxt l).bad = badOf ack nxt (rest ack nxt l) := rfl
  rw [e, e2]
  unfold rest at h ⊢
  split
  · rename_i hT
    rw [if_pos hT] at h
    cases l with
    | nil => simp [isT] at hT
    | cons x r => simp at h ⊢; omega
  · rename_i hT
    rw [if_neg hT] at h
    omega
theorem tsp_hi {ack nxt : Int} (l : List Block) (h : ack ≤ nxt) (h0 : 0 ≤ nxt) : (tsp ack nxt l).hi ≤ nxt := by
  cases hT : isT ack nxt l with
  | false => rw [tsp_zero hT]; exact h0
  | true =>
    cases l with
    | nil => simp [isT] at hT
    | cons x r =>
      rw [tsp_some hT]
      simp only [isT, Bool.and_eq_true, Bool.or_eq_true, decide_eq_true_eq] at hT
      rcases hT.2 with h1 | h1
      · omega
      · cases r with
        | nil => simp [wth] at h1
        | cons y r2 =>
          simp only [wth, Bool.and_eq_true, decide_eq_true_eq] at h1
          exact h1.1
/-- A span's block. -/
def blk (first : Int) (s : Span) : Block := ⟨(first + s.lo % 4294967296) % 4294967296, (first + s.hi % 4294967296) % 4294967296⟩
theorem blk_wf (first : Int) (s : Span) : WfK (blk first s) := by
  unfold blk WfK
  refine ⟨⟨?_, ?_⟩, ⟨?_, ?_⟩⟩ <;> simp only <;> omega
/-- One span more, if there is room for its block. -/
def putOf (first : Int) (xs : List Block) (s : Span) : List Block := if 0 < len s ∧ xs.length < 4 then xs ++ [blk first s] else xs
def blocksOf (first : Int) (l : List Span) : List Block := l.foldl (putOf first) []
theorem putOf_len {first : Int} {xs : List Block} {s : Span} (h : xs.length ≤ 4) : (putOf first xs s).length ≤ 4 := by
  unfold putOf
  split
  · rw [List.length_append, List.length_singleton]; omega
  · exact h
theorem blocks_wf (first : Int) : ∀ (l : List Span) (xs : List Block), (∀ b ∈ xs, WfK b) → ∀ b ∈ l.foldl (putOf first) xs, WfK b
  | [], xs, h => h
  | s :: l, xs, h => blocks_wf first l _ (by
      unfold putOf
      split
      · intro b hb
        rcases List.mem_append.1 hb with h1 | h1
        · exact h b h1
        · rw [List.mem_singleton.1 h1]; exact blk_wf _ _
      · exact h)
theorem blocks_all (first : Int) : ∀ (l : List Span) (xs : List Block), (∀ s ∈ l, 0 < len s) → xs.length + l.length ≤ 4 → l.foldl (putOf first) xs = xs ++ l.map (blk first)
  | [], xs, _, _ => by simp
  | s :: l, xs, h, hl => by
    have h1 := h s (by simp)
    rw [List.length_cons] at hl
    rw [List.foldl_cons, putOf, if_pos ⟨h1, by omega⟩, blocks_all first l _ (fun t ht => h t (by simp [ht])) (by rw [List.length_append, List.length_singleton]; omega)]
    simp
/-- A number that is near tells its offset. -/
theorem unw_near {ack n : Int} (h0 : 0 ≤ ack) (h1 : ack ≤ 4611686018427387904) (n0 : 0 ≤ n) (n1 : n ≤ 4611686018427387904) (h2 : -2147483648 ≤ n - ack) (h3 : n - ack < 2147483648) : unw ack ((0 + n % 4294967296) % 4294967296) = n := by
  have hd : dist ack ((0 + n % 4294967296) % 4294967296) = n - ack := by
    unfold dist
    split <;> omega
  have hf := (fits_iff ack).2 ⟨h0, h1⟩
  have hg : fits (ack + dist ack ((0 + n % 4294967296) % 4294967296)) = true := (fits_iff _).2 (by rw [hd]; omega)
  rw [unw_yes hf hg, hd]
  omega
theorem blk_back {ack : Int} {s : Span} (h0 : 0 ≤ ack) (h1 : ack ≤ 4611686018427387904) (hs : 0 < len s) (h2 : -2147483648 ≤ s.lo - ack) (h3 : s.lo - ack < 2147483648) (h4 : s.hi - s.lo ≤ 65536) : isF ack (blk 0 s) = true ∧ fsp ack (blk 0 s) = s := by
  have hp := plain_spec s
  have hl : len s = (plain s).hi - (plain s).lo := rfl
  rcases hp with ⟨a, b, c, d, e⟩ | ⟨_, d, e⟩
  · have hu : unw ack (blk 0 s).l = s.lo := unw_near h0 h1 a (by omega) h2 h3
    have hz : size (blk 0 s) = s.hi - s.lo := by
      unfold size blk
      simp only
      omega
    refine ⟨?_, ?_⟩
    · unfold isF
      rw [hu, hz]
      exact decide_eq_true (by omega)
    · unfold fsp
      rw [hu, hz, if_pos a]
      exact span_ext rfl (by simp only; omega)
  · rw [hl, d, e] at hs
    exact absurd hs (by decide)
theorem ack_back {una ack : Int} (h0 : 0 ≤ una) (h1 : una ≤ 1152921504606846976) (h2 : una ≤ ack) (h3 : ack - una ≤ 4096) : unw una (ack % 4294967296) = ack := by
  have := unw_near (ack := una) (n := ack) h0 (by omega) (by omega) (by omega) (by omega) (by omega)
  rw [Int.zero_add, Int.emod_emod_of_dvd _ (Int.dvd_refl _)] at this
  exact this
/-- All are Sacks. -/
theorem sacks_all {ack nxt : Int} : ∀ (l : List Span), (∀ s ∈ l, isF ack (blk 0 s) = true ∧ fsp ack (blk 0 s) = s ∧ ack < s.lo ∧ s.hi ≤ nxt) → sacksOf ack nxt (l.map (blk 0)) = l ∧ badOf ack nxt (l.map (blk 0)) = 0
  | [], _ => ⟨rfl, rfl⟩
  | s :: l, h => by
    obtain ⟨h1, h2, h3, h4⟩ := h s (by simp)
    obtain ⟨i1, i2⟩ := sacks_all l (fun t ht => h t (by simp [ht]))
    have hg : good ack nxt (blk 0 s) = true := by
      unfold good
      rw [h1, h2]
      simp [h3, h4]
    unfold sacksOf at i1 ⊢
    unfold badOf at i2 ⊢
    simp only [List.map_cons, List.filter_cons, hg, if_true, Bool.not_true, Bool.false_eq_true, if_false, h2]
    exact ⟨by rw [i1], i2⟩
/-- What is told in blocks is told again. -/
theorem back {una ack : Int} {d : Span} {l : List Span} (h0 : 0 ≤ una) (h1 : una ≤ 1152921504606846976) (h2 : una ≤ ack) (h3 : ack - una ≤ 4096) (hl : l.length ≤ 3)
    (hd : 0 < len d → d.hi ≤ ack ∧ len d ≤ 4096 ∧ ack - d.lo ≤ 1073741824)
    (ha : ∀ s ∈ l, 0 < len s ∧ ack < s.lo ∧ s.hi ≤ una + 65536)
    (hh : ¬ 0 < len d → ∀ x y r, l = x :: y :: r → holds y x = false) :
    look una (una + 65536) (ack % 4294967296) (blocksOf 0 (d :: l)) = (⟨ack, decide (0 < len d), if 0 < len d then d else ⟨0, 0⟩, l, 0⟩, 0) := by
  have hu := ack_back h0 h1 h2 h3
  have hs : ∀ s ∈ l, isF ack (blk 0 s) = true ∧ fsp ack (blk 0 s) = s ∧ ack < s.lo ∧ s.hi ≤ una + 65536 := by
    intro s hs
    obtain ⟨a, b, c⟩ := ha s hs
    have hp := plain_spec s
    have hlen : len s = (plain s).hi - (plain s).lo := rfl
    have hb : 0 ≤ s.lo ∧ s.lo < s.hi := by
      rcases hp with ⟨a, b, c, d, e⟩ | ⟨_, d, e⟩
      · exact ⟨a, b⟩
      · rw [hlen, d, e] at a
        exact absurd a (by decide)
    obtain ⟨e1, e2⟩ := blk_back (ack := ack) (s := s) (by omega) (by omega) a (by omega) (by omega) (by omega)
    exact ⟨e1, e2, b, c⟩
  obtain ⟨s1, s2⟩ := sacks_all l hs
  unfold look
  rw [if_neg (by omega), hu, if_neg (by omega), if_neg (by omega)]
  by_cases hd0 : 0 < len d
  · obtain ⟨d1, d2, d3⟩ := hd hd0
    have hp := plain_spec d
    have hlen : len d = (plain d).hi - (plain d).lo := rfl
    have hb : 0 ≤ d.lo ∧ d.lo < d.hi ∧ len d = d.hi - d.lo := by
      rcases hp with ⟨a, b, c, e, f⟩ | ⟨_, e, f⟩
      · exact ⟨a, b, by rw [hlen, e, f]⟩
      · rw [hlen, e, f] at hd0
        exact absurd hd0 (by decide)
    obtain ⟨b1, b2, b3⟩ := hb
    obtain ⟨e1, e2⟩ := blk_back (ack := ack) (s := d) (by omega) (by omega) hd0 (by omega) (by omega) (by omega)
    have hbl : blocksOf 0 (d :: l) = (d :: l).map (blk 0) := by
      unfold blocksOf
      rw [blocks_all 0 (d :: l) [] (by
        intro s hs'
        rcases List.mem_cons.1 hs' with rfl | h
        · exact hd0
        · exact (ha s h).1) (by simp; omega)]
      simp
    have hT : isT ack (una + 65536) ((d :: l).map (blk 0)) = true := by
      rw [List.map_cons]
      simp only [isT, e1, e2, Bool.true_and, Bool.or_eq_true, decide_eq_true_eq]
      exact .inl d1
    rw [hbl]
    unfold tells rest
    rw [hT]
    have ht : tsp ack (una + 65536) ((d :: l).map (blk 0)) = d := by
      rw [List.map_cons] at hT ⊢
      rw [tsp_some hT, e2]
    rw [ht, if_pos rfl, List.map_cons, List.tail_cons, s1, s2, if_pos hd0, decide_eq_true hd0]
  · have hbl : blocksOf 0 (d :: l) = l.map (blk 0) := by
      unfold blocksOf
      rw [List.foldl_cons]
      have e : putOf 0 [] d = [] := by unfold putOf; rw [if_neg (fun h => hd0 h.1)]
      rw [e, blocks_all 0 l [] (fun s hs => (ha s hs).1) (by simp; omega)]
      simp
    have hT : isT ack (una + 65536) (l.map (blk 0)) = false := by
      cases l with
      | nil => rfl
      | cons x r =>
        obtain ⟨a1, a2, a3, a4⟩ := hs x (by simp)
        obtain ⟨b1, _, _⟩ := ha x (by simp)
        have hx : ¬ x.hi ≤ ack := by
          have hp := plain_spec x
          have hlen : len x = (plain x).hi - (plain x).lo := rfl
          rcases hp with ⟨a, b, c, e, f⟩ | ⟨_, e, f⟩
          · omega
          · rw [hlen, e, f] at b1
            exact absurd b1 (by decide)
        rw [List.map_cons]
        simp only [isT, a1, a2, Bool.true_and]
        rw [decide_eq_false hx, Bool.false_or]
        cases r with
        | nil => rfl
        | cons y r2 =>
          obtain ⟨c1, c2, _, _⟩ := hs y (by simp)
          rw [List.map_cons]
          simp only [wth, c1, c2, Bool.true_and]
          rw [hh hd0 x y r2 rfl, Bool.and_false]
    rw [hbl]
    unfold tells rest
    rw [hT, tsp_zero hT, if_neg (by decide), s1, s2, if_neg hd0, decide_eq_false hd0]
end Go.Proofs.Ytaokiocpfpdmkaa.Dups
