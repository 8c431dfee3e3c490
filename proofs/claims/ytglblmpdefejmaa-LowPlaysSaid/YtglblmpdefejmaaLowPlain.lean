/- Chapter 12's least values over plain lists: no program in them. -/
namespace Go.Proofs.Ytglblmpdefejmaa.LowPlain
structure LMark where
  at_ : Int
  v : Int
deriving Inhabited, DecidableEq
/-- Those below which nothing came later. -/
def surv : List LMark → List LMark
  | [] => []
  | x :: t => if t.all (fun y => decide (x.v < y.v)) then x :: surv t else surv t
def within (window now : Int) (x : LMark) : Bool := decide (now - x.at_ < window)
/-- What is kept. -/
def kept (window last : Int) (had : List LMark) : List LMark := (surv had).filter (within window last)
def Times (l : List LMark) : Prop := l.Pairwise (fun a b => a.at_ ≤ b.at_)
def Rises (l : List LMark) : Prop := l.Pairwise (fun a b => a.v < b.v)
theorem surv_sub : ∀ (l : List LMark), (surv l).Sublist l
  | [] => by simp [surv]
  | x :: t => by
    unfold surv
    split
    · exact (surv_sub t).cons_cons x
    · exact (surv_sub t).cons x
theorem surv_mem {l : List LMark} {x : LMark} (h : x ∈ surv l) : x ∈ l := (surv_sub l).subset h
theorem surv_rises : ∀ (l : List LMark), Rises (surv l)
  | [] => by simp [surv, Rises]
  | x :: t => by
    unfold surv
    split
    · rename_i h
      refine List.Pairwise.cons ?_ (surv_rises t)
      intro y hy
      simpa using List.all_eq_true.1 h y (surv_mem hy)
    · exact surv_rises t
theorem surv_times {l : List LMark} (h : Times l) : Times (surv l) := List.Pairwise.sublist (surv_sub l) h
theorem surv_snoc : ∀ (l : List LMark) (y : LMark), surv (l ++ [y]) = (surv l).filter (fun x => decide (x.v < y.v)) ++ [y]
  | [], y => by simp [surv]
  | x :: t, y => by
    have ih := surv_snoc t y
    by_cases h : t.all (fun z => decide (x.v < z.v)) = true
    · by_cases hy : x.v < y.v
      · simp only [List.cons_append, surv]
        rw [if_pos (by rw [List.all_append, h]; simp [hy]), if_pos h, List.filter_cons, if_pos (by simpa using hy), ih]; rfl
      · simp only [List.cons_append, surv]
        rw [if_neg (by rw [List.all_append]; simp [hy]), if_pos h, List.filter_cons, if_neg (by simpa using hy), ih]
    · simp only [List.cons_append, surv]
      rw [if_neg (by rw [List.all_append]; simp only [Bool.and_eq_true]; exact fun c => h c.1), if_neg h, ih]
/-- Those of a rising list below v are its head. -/
theorem rise_count : ∀ (l : List LMark) (v : Int), Rises l → l.filter (fun x => decide (x.v < v)) = l.takeWhile (fun x => decide (x.v < v))
  | [], v, _ => rfl
  | x :: t, v, h => by
    have ⟨h1, h2⟩ := List.pairwise_cons.1 h
    by_cases c : x.v < v
    · rw [List.filter_cons, if_pos (by simpa using c), List.takeWhile_cons, if_pos (by simpa using c), rise_count t v h2]
    · rw [List.filter_cons, if_neg (by simpa using c), List.takeWhile_cons, if_neg (by simpa using c)]
      rw [List.filter_eq_nil_iff]
      intro y hy
      have := h1 y hy
      simp; omega
theorem filter_drop : ∀ (l : List LMark) (window now : Int), Times l → l.filter (within window now) = l.dropWhile (fun x => !within window now x)
  | [], _, _, _ => rfl
  | x :: t, window, now, h => by
    have ⟨h1, h2⟩ := List.pairwise_cons.1 h
    by_cases c : within window now x = true
    · rw [List.filter_cons, if_pos c, List.dropWhile_cons, if_neg (by simp [c])]
      congr 1
      rw [List.filter_eq_self]
      intro y hy
      have := h1 y hy
      unfold within at *
      simp at *; omega
    · rw [List.filter_cons, if_neg c, List.dropWhile_cons, if_pos (by simp [c]), filter_drop t window now h2]
theorem within_later {window a b : Int} {x : LMark} (hab : a ≤ b) (h : within window b x = true) : within window a x = true := by
  unfold within at *; simp at *; omega
theorem kept_later (window a b : Int) (had : List LMark) (hab : a ≤ b) : kept window b had = (kept window a had).filter (within window b) := by
  unfold kept
  rw [List.filter_filter]
  congr 1
  funext x
  rw [Bool.eq_iff_iff, Bool.and_eq_true]
  exact ⟨fun h => ⟨h, within_later hab h⟩, fun h => h.1⟩
theorem kept_times {window last : Int} {had : List LMark} (h : Times had) : Times (kept window last had) := List.Pairwise.sublist List.filter_sublist (surv_times h)
theorem kept_rises {window last : Int} {had : List LMark} : Rises (kept window last had) := List.Pairwise.sublist List.filter_sublist (surv_rises had)
/-- What a further value does. -/
theorem kept_snoc (window last : Int) (had : List LMark) (y : LMark) (hl : last ≤ y.at_) (ht : Times (had ++ [y])) :
    kept window y.at_ (had ++ [y]) = ((kept window last had).takeWhile (fun x => decide (x.v < y.v)) ++ [y]).dropWhile (fun x => !within window y.at_ x) := by
  have hh : Times had := List.Pairwise.sublist (List.sublist_append_left _ _) ht
  rw [← rise_count _ _ kept_rises, ← filter_drop]
  · unfold kept
    rw [surv_snoc, List.filter_append, List.filter_append, List.filter_filter, List.filter_filter, List.filter_filter]
    congr 1
    congr 1
    funext x
    rw [Bool.eq_iff_iff]
    simp only [Bool.and_eq_true]
    have hw := @within_later window last y.at_ x hl
    cases h1 : within window y.at_ x <;> simp_all
  · unfold Times at *
    rw [List.pairwise_append]
    refine ⟨List.Pairwise.sublist List.filter_sublist (kept_times hh), by simp, ?_⟩
    intro a ha b hb
    have hb' : b = y := by simpa using hb
    subst hb'
    have ha' : a ∈ had := surv_mem (List.mem_filter.1 (List.mem_filter.1 ha).1).1
    exact (List.pairwise_append.1 ht).2.2 a ha' b (by simp)
/-- The document's least one, step by step. -/
def best (window now : Int) (l : List LMark) : Int := l.foldl (fun b x => if now - x.at_ < window ∧ (b < 0 ∨ x.v < b) then x.v else b) (-1)
def lower (b : Int) (window now : Int) (l : List LMark) : Int := l.foldl (fun b x => if now - x.at_ < window ∧ (b < 0 ∨ x.v < b) then x.v else b) b
theorem best_snoc (window now : Int) (l : List LMark) (x : LMark) : best window now (l ++ [x]) = if now - x.at_ < window ∧ (best window now l < 0 ∨ x.v < best window now l) then x.v else best window now l := by
  unfold best; rw [List.foldl_append]; rfl
/-- The head of what is within. -/
def first (l : List LMark) : Int := match l with | [] => -1 | x :: _ => x.v
theorem first_filter_snoc (window now : Int) (l : List LMark) (y : LMark) (hv : ∀ x ∈ l, 0 ≤ x.v) :
    first (((surv l).filter (fun x => decide (x.v < y.v)) ++ [y]).filter (within window now)) =
      if now - y.at_ < window ∧ (first ((surv l).filter (within window now)) < 0 ∨ y.v < first ((surv l).filter (within window now))) then y.v else
        if now - y.at_ < window then first ((surv l).filter (within window now)) else first (((surv l).filter (fun x => decide (x.v < y.v))).filter (within window now)) := by
  rw [List.filter_append]
  by_cases c : now - y.at_ < window
  · have e1 : [y].filter (within window now) = [y] := by simp [within, c]
    rw [e1, List.filter_filter]
    have e2 : ((surv l).filter (fun a => within window now a && decide (a.v < y.v))) = ((surv l).filter (within window now)).filter (fun a => decide (a.v < y.v)) := by
      rw [List.filter_filter]
      congr 1; funext x; rw [Bool.and_comm]
    rw [e2]
    have hr : Rises ((surv l).filter (within window now)) := List.Pairwise.sublist List.filter_sublist (surv_rises l)
    have hp : ∀ x ∈ (surv l).filter (within window now), 0 ≤ x.v := fun x hx => hv x (surv_mem (List.mem_filter.1 hx).1)
    generalize (surv l).filter (within window now) = m at *
    cases m with
    | nil => simp [first, c]
    | cons x t =>
      have hx := hp x (by simp)
      by_cases d : x.v < y.v
      · simp only [List.filter_cons, first]
        rw [if_pos (by simpa using d)]
        simp only [List.cons_append]
        rw [if_neg (by omega), if_pos c]
      · rw [rise_count _ _ hr]
        simp only [List.takeWhile_cons, first]
        rw [if_neg (by simpa using d)]
        simp only [List.nil_append]
        by_cases e : y.v < x.v
        · rw [if_pos ⟨c, .inr e⟩]
        · rw [if_neg (by omega), if_pos c]; omega
  · have e1 : [y].filter (within window now) = [] := by simp [within, c]
    rw [e1, if_neg (by omega), if_neg c]; simp
theorem within_all {window now : Int} {l : List LMark} {y : LMark} (ht : Times (l ++ [y])) (h : ¬ now - y.at_ < window) : ∀ x ∈ l, within window now x = false := by
  intro x hx
  have := (List.pairwise_append.1 ht).2.2 x hx y (by simp)
  unfold within; simp; omega
theorem best_out (window now : Int) : ∀ (l : List LMark), (∀ x ∈ l, within window now x = false) → best window now l = -1 := by
  intro l h
  unfold best
  suffices H : ∀ (l : List LMark) (b : Int), (∀ x ∈ l, within window now x = false) → l.foldl (fun b x => if now - x.at_ < window ∧ (b < 0 ∨ x.v < b) then x.v else b) b = b from H l _ h
  intro l
  induction l with
  | nil => intro b _; rfl
  | cons x t ih =>
    intro b h
    have hx := h x (by simp)
    have : ¬ now - x.at_ < window := by unfold within at hx; simp at hx; omega
    rw [List.foldl_cons, if_neg (by omega)]
    exact ih b (fun z hz => h z (by simp [hz]))
theorem take_snoc (l : List LMark) (n : Nat) (h : n < l.length) : l.take (n + 1) = l.take n ++ [l[n]] := List.take_succ_eq_append_getElem h
theorem best_first (window now : Int) (l : List LMark) (ht : Times l) (hv : ∀ x ∈ l, 0 ≤ x.v) : best window now l = first ((surv l).filter (within window now)) := by
  suffices H : ∀ n, n ≤ l.length → best window now (l.take n) = first ((surv (l.take n)).filter (within window now)) by
    have := H l.length (Nat.le_refl _); simpa using this
  intro n
  induction n with
  | zero => intro _; simp [best, surv, first]
  | succ n ih =>
    intro hn
    rw [take_snoc l n (by omega), best_snoc, surv_snoc, ih (by omega)]
    have ht' : Times (l.take n ++ [l[n]]) := by rw [← take_snoc l n (by omega)]; exact List.Pairwise.sublist (List.take_sublist _ _) ht
    rw [first_filter_snoc window now (l.take n) l[n] (fun x hx => hv x (List.mem_of_mem_take hx))]
    by_cases c : now - l[n].at_ < window
    · split
      · rfl
      · rfl
    · rw [if_neg (by omega), if_neg (by omega), if_neg c]
      have ha := within_all ht' c
      have e1 : (surv (l.take n)).filter (within window now) = [] := by
        rw [List.filter_eq_nil_iff]; intro x hx; simp [ha x (surv_mem hx)]
      have e2 : ((surv (l.take n)).filter (fun x => decide (x.v < l[n].v))).filter (within window now) = [] := by
        rw [List.filter_eq_nil_iff]; intro x hx; simp [ha x (surv_mem (List.mem_filter.1 hx).1)]
      rw [e1, e2]
/-- The document's least one is the first that is kept and not gone. -/
theorem best_kept (window last now : Int) (l : List LMark) (ht : Times l) (hv : ∀ x ∈ l, 0 ≤ x.v) (hn : last ≤ now) : best window now l = first ((kept window last l).dropWhile (fun x => !within window now x)) := by
  rw [best_first window now l ht hv, ← filter_drop _ _ _ (kept_times ht), ← kept_later window last now l hn]
  rfl
/-- The document's count. -/
def count (window last : Int) : List LMark → Nat
  | [] => 0
  | x :: t => (if (decide (last - x.at_ < window) && t.all (fun y => decide (x.v < y.v))) = true then 1 else 0) + count window last t
theorem count_kept (window last : Int) : ∀ (l : List LMark), (kept window last l).length = count window last l
  | [] => rfl
  | x :: t => by
    have ih := count_kept window last t
    unfold kept at *
    unfold surv count
    by_cases h : t.all (fun y => decide (x.v < y.v)) = true
    · rw [if_pos h, List.filter_cons, h, Bool.and_true]
      by_cases c : within window last x = true
      · rw [if_pos c, if_pos (by simpa [within] using c), List.length_cons, ih]; omega
      · rw [if_neg c, if_neg (fun k => c (by simpa [within] using k)), ih]; omega
    · rw [if_neg h, if_neg (fun k => h (by rw [Bool.and_eq_true] at k; exact k.2)), ih]; omega
end Go.Proofs.Ytglblmpdefejmaa.LowPlain
