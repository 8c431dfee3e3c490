/- The walks of the laws of chapter 12: LowFalls and LowNone. -/
import Derived.Test.YtglblmpdefejmaaLowAdd
attribute [local go_sem ↓] Go.wp_at_zero Go.wp_at_succ
namespace Go.Proofs.Ytglblmpdefejmaa.Low
open Go.RowKit Go.OpenShut Go.Proofs.Ytglblmpdefejmaa.Aid Go.Proofs.Ytglblmpdefejmaa.LowPlain
attribute [local go_sem] max_2 min_2 max2_i min2_i
def Yes (w : World) (e : Ending) (w' : World) : Prop := e = .returned (.bool true) ∧ Below w.heap.size w w'
theorem known_calls (w : World) : Calls Try.prog 6 #[] w fun e w' => e = .returned (.bool true) ∧ Below w.heap.size w w' := by
  have W0 : Wf [] := by intro x hx; simp at hx
  have W1 : Wf [⟨0, 5⟩] := by intro x hx; have : x = ⟨0, 5⟩ := by simpa using hx
                              subst this; decide
  have W2 : Wf [⟨0, 5⟩, ⟨3, 7⟩] := by
    intro x hx
    have : x = ⟨0, 5⟩ ∨ x = ⟨3, 7⟩ := by simpa using hx
    rcases this with rfl | rfl <;> decide
  have R0 : Rises [] := by simp [Rises]
  have R1 : Rises [⟨0, 5⟩] := by simp [Rises]
  have A0 : Hid (added 10 0 5 [] = [⟨0, 5⟩]) := Lib.hid (by decide)
  have A1 : Hid (added 10 3 7 [⟨0, 5⟩] = [⟨0, 5⟩, ⟨3, 7⟩]) := Lib.hid (by decide)
  have M1 : Hid (minOf 10 3 9 [⟨0, 5⟩, ⟨3, 7⟩] = .tuple #[.int .i64 5, .bool true]) := Lib.hid (by rw [minOf, if_neg (by omega)]; rfl)
  have M2 : Hid (minOf 10 3 10 [⟨0, 5⟩, ⟨3, 7⟩] = .tuple #[.int .i64 7, .bool true]) := Lib.hid (by rw [minOf, if_neg (by omega)]; rfl)
  have M3 : Hid (minOf 10 3 13 [⟨0, 5⟩, ⟨3, 7⟩] = .tuple #[.int .i64 0, .bool false]) := Lib.hid (by rw [minOf, if_neg (by omega)]; rfl)
  have W0' := Lib.hid W0
  have W1' := Lib.hid W1
  have W2' := Lib.hid W2
  have R0' := Lib.hid R0
  have R1' := Lib.hid R1
  clear W0 W1 W2 R0 R1
  go_enter Try.func6, Try.ntmps6
  go_wp2_with fail
  refine (new_ok 10 _ (by decide) (by decide)).mono ?_
  rintro e w1 ⟨rfl, h1, b1, s1⟩
  have H1 := Lib.hid h1
  clear h1
  go_wp2_with fail
  refine (add_good _ 10 0 0 5 _ _ [] _ H1.out W0'.out R0'.out (by omega) (by omega) (by omega) (by omega) (by omega) (by omega) (by omega) (by simp)).mono ?_
  rintro e w2 ⟨rfl, ⟨A2, c2, h2⟩, g2⟩
  rw [A0.out] at h2
  have H2 := Lib.hid h2
  have b2 : Below w.heap.size w w2 := below_grown b1 (Nat.le_of_lt s1) g2 (Nat.le_refl _)
  clear h2 g2 H1
  go_wp2_with fail
  refine (add_good _ 10 0 3 7 _ _ _ _ H2.out W1'.out R1'.out (by omega) (by omega) (by omega) (by omega) (by omega) (by omega) (by omega) (by simp)).mono ?_
  rintro e w3 ⟨rfl, ⟨A3, c3, h3⟩, g3⟩
  rw [A1.out] at h3
  have H3 := Lib.hid h3
  have b3 : Below w.heap.size w w3 := below_grown b2 b2.size g3 (Nat.le_refl _)
  clear h3 g3 H2
  go_wp2_with fail
  refine (min_calls _ 10 3 9 _ _ _ _ H3.out W2'.out (by omega) (by omega) (by omega)).mono ?_
  rintro e w4 ⟨rfl, n4, rfl⟩
  rw [M1.out]
  go_wp2_with fail
  refine (min_calls _ 10 3 10 _ _ _ _ (H3.out.drewN _) W2'.out (by omega) (by omega) (by omega)).mono ?_
  rintro e w4 ⟨rfl, n5, rfl⟩
  rw [M2.out]
  go_wp2_with fail
  refine (min_calls _ 10 3 13 _ _ _ _ (H3.out.drewN _) W2'.out (by omega) (by omega) (by omega)).mono ?_
  rintro e w4 ⟨rfl, n6, rfl⟩
  rw [M3.out]
  go_wp2_with fail
  refine (len_calls _ 10 3 _ 2 _ _ (H3.out.drewN _).blk (by omega)).mono ?_
  rintro e w4 ⟨rfl, rfl⟩
  go_wp2
  go_ret
  exact ⟨rfl, below_drewN b3 _⟩
theorem add_nil (now v : Int) (w : World) : Calls Try.prog 8 #[.pointer none, .int .i64 now, .int .i64 v] w fun e w' => e = .returned (.int .i64 1) ∧ w = w' := by
  go_enter Try.func8, Try.ntmps8
  go_wp2_with fail
  go_step3
  go_wp2
  rw [Exit.noGoto_ret]
  go_ret
  exact ⟨rfl, rfl⟩
def oneMin (now : Int) : Value := if 100 ≤ now ∧ now < 105 then .tuple #[.int .i64 3, .bool true] else .tuple #[.int .i64 0, .bool false]
theorem one_min (now : Int) : minOf 5 100 now [⟨100, 3⟩] = oneMin now := by
  unfold minOf oneMin
  by_cases h1 : now < 100 ∨ now > 4611686018427387904
  · rw [if_pos h1, if_neg (by omega)]
  · rw [if_neg h1]
    by_cases h2 : now < 105
    · have e : goneN 5 now [⟨100, 3⟩] = 0 := by
        unfold goneN
        rw [List.takeWhile_cons, if_neg (by simp [within]; omega)]; rfl
      rw [e, if_pos (by omega)]; rfl
    · have e : goneN 5 now [⟨100, 3⟩] = 1 := by
        unfold goneN
        rw [List.takeWhile_cons, if_pos (by simp [within]; omega)]; rfl
      rw [e, if_neg (by omega)]; rfl
set_option maxRecDepth 100000 in
set_option maxHeartbeats 2000000 in
theorem none_walk (now v : Int) (w : World) : Calls Try.prog 5 #[.int .i64 now, .int .i64 v] w (Yes w) := by
  have W0 : Wf [] := by intro x hx; simp at hx
  have W1 : Wf [⟨100, 3⟩] := by intro x hx; have : x = ⟨100, 3⟩ := by simpa using hx
                                subst this; decide
  have R0 : Rises [] := by simp [Rises]
  have A0 : Hid (added 5 100 3 [] = [⟨100, 3⟩]) := Lib.hid (by decide)
  have W0' := Lib.hid W0
  have W1' := Lib.hid W1
  have R0' := Lib.hid R0
  clear W0 W1 R0
  have hc : now < 100 ∨ (¬ now < 100 ∧ now < 105) ∨ (¬ now < 100 ∧ ¬ now < 105) := by omega
  go_enter Try.func5, Try.ntmps5
  go_wp2_with fail
  refine (known_calls _).mono ?_
  rintro e w1 ⟨rfl, b1⟩
  go_wp2_with (first | (go_at_call 9; go_in) | (go_at_call 7; refine (new_ok 5 _ (by decide) (by decide)).mono ?_; rintro e w2 ⟨rfl, h2, b2, s2⟩; have H2 := Lib.hid h2; clear h2) | fail)
  refine (add_good _ 5 0 100 3 _ _ [] _ H2.out W0'.out R0'.out (by omega) (by omega) (by omega) (by omega) (by omega) (by omega) (by omega) (by simp)).mono ?_
  rintro e w3 ⟨rfl, ⟨A3, c3, h3⟩, g3⟩
  rw [A0.out] at h3
  have H3 := Lib.hid h3
  have b3 : Below w.heap.size w w3 := below_then b1 b1.size (below_grown b2 (Nat.le_of_lt s2) g3 (Nat.le_refl _))
  clear h3 g3 H2 A0
  go_wp2_with fail
  refine (min_calls _ 5 100 now _ _ _ _ H3.out W1'.out (by omega) (by omega) (by omega)).mono ?_
  rintro e w4 ⟨rfl, n4, rfl⟩
  rw [one_min]
  rcases hc with h1 | ⟨h1, h2⟩ | ⟨h1, h2⟩
  all_goals
    first
      | rw [oneMin, if_pos (by omega)]
      | rw [oneMin, if_neg (by omega)]
    go_wp2_with (first | (go_at_call 8; refine (add_nil _ _ _).mono ?_; rintro e w5 ⟨rfl, rfl⟩) | (go_at_call 6; refine (known_calls _).mono ?_; rintro e w6 ⟨rfl, b6⟩) | go_in)
    go_ret
    refine ⟨?_, below_then (below_drewN b3 _) b3.size b6⟩
    first | rfl | (simp; omega)
/-- Behind a value that was taken the least one is there, and no more than it. -/
theorem added_rises (window now v : Int) (l : List LMark) (hr : Rises l) : Rises (added window now v l) := by
  unfold added
  refine List.Pairwise.sublist (List.dropWhile_sublist _) ?_
  rw [List.pairwise_append]
  refine ⟨List.Pairwise.sublist (List.takeWhile_sublist _) hr, by simp, ?_⟩
  intro a ha b hb
  have hb' : b = ⟨now, v⟩ := by simpa using hb
  have h4 := List.all_takeWhile (l := l) (p := fun x : LMark => decide (x.v < v))
  have := List.all_eq_true.1 h4 a ha
  subst hb'
  simpa using this
theorem added_wf (window now v : Int) (l : List LMark) (hw : Wf l) (h : 0 ≤ now ∧ now ≤ 4611686018427387904 ∧ 0 ≤ v ∧ v ≤ 4611686018427387904) : Wf (added window now v l) := by
  intro x hx
  have hx2 := (List.dropWhile_sublist _).subset hx
  rcases List.mem_append.1 hx2 with hx | hx
  · exact hw x ((List.takeWhile_sublist _).subset hx)
  · have : x = ⟨now, v⟩ := by simpa using hx
    subst this; exact h
theorem added_len (window now v : Int) (l : List LMark) : (added window now v l).length ≤ l.length + 1 := by
  unfold added
  refine Nat.le_trans (List.Sublist.length_le (List.dropWhile_sublist _)) ?_
  rw [List.length_append]
  have := List.Sublist.length_le (List.takeWhile_sublist (l := l) (fun x : LMark => decide (x.v < v)))
  simp; omega
theorem added_head (window now v : Int) (l : List LMark) (h0 : 1 ≤ window) : ∃ x t, added window now v l = x :: t ∧ within window now x = true ∧ x.v ≤ v := by
  have hy : within window now ⟨now, v⟩ = true := by simp [within]; omega
  have hm : ∀ x ∈ (l.takeWhile (fun x : LMark => decide (x.v < v))) ++ [(⟨now, v⟩ : LMark)], x.v ≤ v := by
    intro x hx
    rcases List.mem_append.1 hx with hx | hx
    · have h4 := List.all_takeWhile (l := l) (p := fun x : LMark => decide (x.v < v))
      have := List.all_eq_true.1 h4 x hx
      simp at this; omega
    · have : x = ⟨now, v⟩ := by simpa using hx
      subst this; simp
  have hex : ∃ x ∈ (l.takeWhile (fun x : LMark => decide (x.v < v))) ++ [(⟨now, v⟩ : LMark)], within window now x = true := ⟨_, by simp, hy⟩
  unfold added
  generalize (l.takeWhile (fun x : LMark => decide (x.v < v))) ++ [(⟨now, v⟩ : LMark)] = m at *
  clear hy
  induction m with
  | nil => obtain ⟨x, hx, _⟩ := hex; simp at hx
  | cons y t ih =>
    by_cases c : within window now y = true
    · exact ⟨y, t, by rw [List.dropWhile_cons, if_neg (by simp [c])], c, hm y (by simp)⟩
    · rw [List.dropWhile_cons, if_pos (by simp [c])]
      refine ih (fun x hx => hm x (by simp [hx])) ?_
      obtain ⟨x, hx, hw⟩ := hex
      rcases List.mem_cons.1 hx with rfl | hx
      · exact absurd hw c
      · exact ⟨x, hx, hw⟩
theorem min_added (window now v : Int) (l : List LMark) (h0 : 1 ≤ window) (h2 : now ≤ 4611686018427387904) : ∃ u, minOf window now now (added window now v l) = .tuple #[.int .i64 u, .bool true] ∧ u ≤ v := by
  obtain ⟨x, t, e, hx, hv⟩ := added_head window now v l h0
  refine ⟨x.v, ?_, hv⟩
  rw [minOf, if_neg (by omega), e]
  have : goneN window now (x :: t) = 0 := by
    unfold goneN
    rw [List.takeWhile_cons, if_neg (by simp [hx])]; rfl
  rw [this]; rfl
theorem gone_mono (window a b : Int) (hab : a ≤ b) : ∀ l : List LMark, goneN window a l ≤ goneN window b l
  | [] => Nat.le_refl _
  | x :: t => by
    have ih := gone_mono window a b hab t
    unfold goneN at *
    by_cases c : within window a x = true
    · rw [List.takeWhile_cons, if_neg (by simp [c])]; simp
    · have c2 : ¬ within window b x = true := fun h => c (within_later hab h)
      rw [List.takeWhile_cons, if_pos (by simp [c]), List.takeWhile_cons, if_pos (by simp [c2]), List.length_cons, List.length_cons]; omega
theorem min_falls (window last a b u v : Int) (l : List LMark) (hr : Rises l) (hab : a ≤ b) (h1 : minOf window last a l = .tuple #[.int .i64 u, .bool true]) (h2 : minOf window last b l = .tuple #[.int .i64 v, .bool true]) : u ≤ v := by
  unfold minOf at h1 h2
  split at h1
  · simp at h1
  · split at h2
    · simp at h2
    · split at h1
      · simp at h1
      · rename_i _ _ _ x t hx
        split at h2
        · simp at h2
        · rename_i _ _ y s hy
          have hm := gone_mono window a b hab l
          have e1 : l[goneN window a l]? = some x := by rw [← List.head?_drop, hx]; rfl
          have e2 : l[goneN window b l]? = some y := by rw [← List.head?_drop, hy]; rfl
          have l1 := (List.getElem?_eq_some_iff.1 e1).1
          have l2 := (List.getElem?_eq_some_iff.1 e2).1
          have q1 := (List.getElem?_eq_some_iff.1 e1).2
          have q2 := (List.getElem?_eq_some_iff.1 e2).2
          simp at h1 h2
          rw [← h1, ← h2]
          by_cases he : goneN window a l = goneN window b l
          · rw [he] at e1
            rw [e1] at e2
            cases e2
            exact Int.le_refl _
          · have := List.pairwise_iff_getElem.1 hr _ _ l1 l2 (by omega)
            rw [q1, q2] at this
            omega
theorem min_form (window last a : Int) (l : List LMark) : (∃ u, minOf window last a l = .tuple #[.int .i64 u, .bool true]) ∨ minOf window last a l = .tuple #[.int .i64 0, .bool false] := by
  unfold minOf
  split
  · exact .inr rfl
  · split
    · exact .inr rfl
    · exact .inl ⟨_, rfl⟩
end Go.Proofs.Ytglblmpdefejmaa.Low
