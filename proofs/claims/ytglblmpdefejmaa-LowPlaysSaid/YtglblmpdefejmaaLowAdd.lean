/- Chapter 12's New, Add, Min, Len, Last, Clone, each by what it computes. -/
import Derived.Test.YtglblmpdefejmaaLow
import Derived.Test.YtglblmpdefejmaaFlat
import Derived.WalkMore
import Derived.Deep.RegionWith
import Derived.Deep.DeepCutAuto
import Derived.Deep.CutBlock
attribute [local go_sem ↓] Go.wp_at_zero Go.wp_at_succ
namespace Go.Proofs.Ytglblmpdefejmaa.Low
open Go.RowKit Go.OpenShut Go.Proofs.Ytglblmpdefejmaa.Aid Go.Proofs.Ytglblmpdefejmaa.LowPlain
attribute [local go_sem] max_2 min_2 max2_i min2_i
theorem encM_len (x : LMark) : (encM x).length = 2 := rfl
theorem markInfo : (Try.prog.info? 43).map (fun i => (i.zero, i.size, i.bytes)) = some (some (.agg #[.int .i64 0, .int .i64 0]), 2, 16) := by kernel_rfl
theorem new_bad (window : Int) (w : World) (h : window < 1 ∨ window > 4611686018427387904) :
    Calls Try.prog 7 #[.int .i64 window] w fun e w' => e = .returned (.tuple #[.pointer none, .int .i64 2]) ∧ w = w' := by
  by_cases h1 : window < 1
  · go_enter Try.func7, Try.ntmps7
    go_wp2
    go_ret2
    exact ⟨rfl, rfl⟩
  · have h2 : window > 4611686018427387904 := by omega
    go_enter Try.func7, Try.ntmps7
    go_wp2
    go_ret2
    exact ⟨rfl, rfl⟩
def Fresh (window : Int) (w : World) (e : Ending) (w' : World) : Prop := e = .returned (.tuple #[.pointer (some ⟨w.heap.size, 0, none⟩), .int .i64 0]) ∧ IsLow w' w.heap.size window 0 none 0 [] ∧ Below w.heap.size w w' ∧ w.heap.size < w'.heap.size
theorem new_ok (window : Int) (w : World) (h1 : ¬ window < 1) (h2 : ¬ window > 4611686018427387904) :
    Calls Try.prog 7 #[.int .i64 window] w (Fresh window w) := by
  go_enter Try.func7, Try.ntmps7
  go_wp2
  go_ret2
  exact ⟨rfl, ⟨Blk.new _ _ _, Reps.nil _ _ _ _, (fun _ h => by cases h), (fun _ h => by cases h), Nat.le_refl _, by simp⟩, (Below.refl _ w).alloc (Nat.le_refl _) _, by simp⟩
theorem len_calls (g : Nat) (window last : Int) (A : Option Addr) (n c : Nat) (w : World) (h : Blk w g 41 #[.int .i64 window, .int .i64 last, .slice A n c]) (_hn : n ≤ 1000) :
    Calls Try.prog 11 #[.pointer (some ⟨g, 0, none⟩)] w fun e w' => e = .returned (.int .i64 n) ∧ w = w' := by
  have c2 : w.cell? ⟨g, 2, none⟩ = some (.slice A n c) := h.cell 2
  clear h
  go_enter Try.func11, Try.ntmps11
  go_wp2
  go_ret
  exact ⟨rfl, rfl⟩
theorem last_calls (g : Nat) (window last : Int) (v : Value) (w : World) (h : Blk w g 41 #[.int .i64 window, .int .i64 last, v]) :
    Calls Try.prog 13 #[.pointer (some ⟨g, 0, none⟩)] w fun e w' => e = .returned (.int .i64 last) ∧ w = w' := by
  have c1 : w.cell? ⟨g, 1, none⟩ = some (.int .i64 last) := h.cell 1
  clear h
  go_enter Try.func13, Try.ntmps13
  go_wp2
  go_ret
  exact ⟨rfl, rfl⟩
theorem IsLow.drewN {w : World} {g : Nat} {window last : Int} {A : Option Addr} {c : Nat} {l : List LMark} (h : IsLow w g window last A c l) (n : Nat) : IsLow (w.drewN n) g window last A c l :=
  ⟨h.blk, h.reps, h.ne, h.ty, h.le, h.small⟩
theorem IsLow.grown {w w' : World} {g : Nat} {window last : Int} {A : Option Addr} {c : Nat} {l : List LMark} {row : Option Nat} (h : IsLow w g window last A c l) (hg : w.grownBy w' row) (h1 : some g ≠ row) (h2 : ∀ ad, A = some ad → some ad.block ≠ row) : IsLow w' g window last A c l :=
  ⟨h.blk.grown hg h1, h.reps.grown hg h2, h.ne, fun ad e => by obtain ⟨cs, k⟩ := h.ty ad e; exact ⟨cs, k.grown hg (h2 ad e)⟩, h.le, h.small⟩
theorem IsLow.below {w w' : World} {g : Nat} {window last : Int} {A : Option Addr} {c : Nat} {l : List LMark} (h : IsLow w g window last A c l) (hg : Below w.heap.size w w') : IsLow w' g window last A c l :=
  ⟨h.blk.below hg h.blk.lt, h.reps.below hg, h.ne, fun ad e => by obtain ⟨cs, k⟩ := h.ty ad e; exact ⟨cs, k.below hg k.lt⟩, h.le, h.small⟩
def minOf (window last now : Int) (l : List LMark) : Value :=
  if now < last ∨ now > 4611686018427387904 then .tuple #[.int .i64 0, .bool false]
  else match l.drop (goneN window now l) with
    | [] => .tuple #[.int .i64 0, .bool false]
    | x :: _ => .tuple #[.int .i64 x.v, .bool true]
theorem gone_le (window now : Int) (l : List LMark) : goneN window now l ≤ l.length := by
  unfold goneN
  exact List.Sublist.length_le (List.takeWhile_sublist _)
set_option maxHeartbeats 1000000 in
theorem min_calls (g : Nat) (window last now : Int) (A : Option Addr) (c : Nat) (l : List LMark) (w : World) (h : IsLow w g window last A c l) (hw : Wf l) (h0 : 1 ≤ window) (h1 : window ≤ 4611686018427387904) (l0 : 0 ≤ last) :
    Calls Try.prog 9 #[.pointer (some ⟨g, 0, none⟩), .int .i64 now] w fun e w' => e = .returned (minOf window last now l) ∧ ∃ n, w' = w.drewN n := by
  have hsm := h.small
  have hle := h.le
  have c1 : w.cell? ⟨g, 1, none⟩ = some (.int .i64 last) := h.blk.cell 1
  have c2 : w.cell? ⟨g, 2, none⟩ = some (.slice A l.length c) := h.blk.cell 2
  have H := Lib.hid h
  have HW := Lib.hid hw
  clear h hw
  by_cases a1 : now < last
  · rw [minOf, if_pos (.inl a1)]
    go_enter Try.func9, Try.ntmps9
    go_wp2
    go_ret2
    exact ⟨rfl, 0, rfl⟩
  · by_cases a2 : now > 4611686018427387904
    · rw [minOf, if_pos (.inr a2)]
      go_enter Try.func9, Try.ntmps9
      go_wp2
      go_ret2
      exact ⟨rfl, 0, rfl⟩
    · rw [minOf, if_neg (by omega)]
      have hk := gone_le window now l
      obtain ⟨k, hkk⟩ : ∃ k, k = goneN window now l := ⟨_, rfl⟩
      have G := Lib.hid (gone_calls g window last now A c l w H.out HW.out h0 h1 (by omega) (by omega))
      rw [← hkk] at hk G
      rw [← hkk]
      clear hkk
      by_cases hz : k = l.length
      · rw [List.drop_eq_nil_of_le (by omega)]
        subst hz
        go_enter Try.func9, Try.ntmps9
        go_wp2_with fail
        refine G.out.mono ?_
        rintro e w1 ⟨rfl, n1, rfl⟩
        go_wp2
        go_ret2
        exact ⟨rfl, _, rfl⟩
      · have hlt : k < l.length := by omega
        have hne : ((k : Int) == (l.length : Int)) = false := by simp; omega
        obtain ⟨x, hx⟩ : ∃ x, l[k]? = some x := ⟨_, List.getElem?_eq_getElem hlt⟩
        have hd : l.drop k = x :: l.drop (k + 1) := by
          rw [List.drop_eq_getElem_cons hlt]
          congr 1
          exact (List.getElem?_eq_some_iff.1 hx).2
        rw [hd]
        obtain ⟨ad, rfl, had, k0, k1⟩ := cellAt H.out.reps hx
        clear hd hx
        go_enter Try.func9, Try.ntmps9
        go_wp2_with fail
        refine G.out.mono ?_
        rintro e w1 ⟨rfl, n1, rfl⟩
        go_wp2
        go_ret2
        exact ⟨rfl, _, rfl⟩
/-- How far back the end is cut. -/
theorem rise_stop (l : List LMark) (v : Int) (n : Nat) (hr : Rises l) (hn : n ≤ l.length) (hi : ∀ (i : Nat) (x : LMark), n ≤ i → l[i]? = some x → ¬ x.v < v) (hs : n = 0 ∨ ∃ x : LMark, l[n - 1]? = some x ∧ x.v < v) : l.takeWhile (fun x : LMark => decide (x.v < v)) = l.take n := by
  have e : l = l.take n ++ l.drop n := (List.take_append_drop n l).symm
  have h1 : ∀ x ∈ l.take n, decide (x.v < v) = true := by
    intro x hx
    rcases hs with rfl | ⟨y, hy, hv⟩
    · simp at hx
    · obtain ⟨i, hil, rfl⟩ := List.mem_iff_getElem.1 hx
      have hil2 : i < n := by rw [List.length_take] at hil; omega
      rw [List.getElem_take]
      have hy' := (List.getElem?_eq_some_iff.1 hy).2
      have hyl := (List.getElem?_eq_some_iff.1 hy).1
      by_cases hin : i = n - 1
      · subst hin; rw [hy']; simpa using hv
      · have := List.pairwise_iff_getElem.1 hr i (n - 1) (by omega) (by omega) (by omega)
        rw [hy'] at this
        simp; omega
  have h2 : (l.drop n).takeWhile (fun x => decide (x.v < v)) = [] := by
    cases hd : l.drop n with
    | nil => rfl
    | cons y t =>
      have hy : l[n]? = some y := by rw [← List.head?_drop, hd]; rfl
      rw [List.takeWhile_cons, if_neg (by simpa using hi n y (Nat.le_refl _) hy)]
  rw [e, List.takeWhile_append_of_pos h1]
  rw [h2, List.append_nil, ← e]
theorem drop_gone (window now : Int) (l : List LMark) : l.drop (goneN window now l) = l.dropWhile (fun x => !within window now x) := by
  unfold goneN
  induction l with
  | nil => rfl
  | cons x t ih =>
    by_cases c : (!within window now x) = true
    · rw [List.takeWhile_cons, if_pos c, List.dropWhile_cons, if_pos c, List.length_cons, List.drop_succ_cons, ih]
    · rw [List.takeWhile_cons, if_neg c, List.dropWhile_cons, if_neg c]; rfl
/-- What is kept behind a further value. -/
def added (window now v : Int) (l : List LMark) : List LMark := ((l.takeWhile (fun x : LMark => decide (x.v < v))) ++ [(⟨now, v⟩ : LMark)]).dropWhile (fun x => !within window now x)
theorem add_bad (g : Nat) (window last now v : Int) (r : Value) (w : World) (h : Blk w g 41 #[.int .i64 window, .int .i64 last, r]) (hb : now < last ∨ now > 4611686018427387904 ∨ v < 0 ∨ v > 4611686018427387904) :
    Calls Try.prog 8 #[.pointer (some ⟨g, 0, none⟩), .int .i64 now, .int .i64 v] w fun e w' => e = .returned (.int .i64 3) ∧ w = w' := by
  have c1 : w.cell? ⟨g, 1, none⟩ = some (.int .i64 last) := h.cell 1
  clear h
  have hc : now < last ∨ (¬ now < last ∧ now > 4611686018427387904) ∨ (¬ now < last ∧ ¬ now > 4611686018427387904 ∧ v < 0) ∨ (¬ now < last ∧ ¬ now > 4611686018427387904 ∧ ¬ v < 0 ∧ v > 4611686018427387904) := by omega
  clear hb
  rcases hc with a1 | ⟨a1, a2⟩ | ⟨a1, a2, a3⟩ | ⟨a1, a2, a3, a4⟩
  all_goals
    go_enter Try.func8, Try.ntmps8
    go_wp2_with fail
    go_step3
    go_wp2
    rw [Exit.noGoto_ret]
    go_ret
    exact ⟨rfl, rfl⟩
theorem grown_weak {w w' : World} (h : w.grownBy w' none) (row : Option Nat) : w.grownBy w' row := ⟨h.os, h.tape, h.output, h.size, fun i hi _ => h.block i hi (by simp)⟩
theorem isLow_added {wc w2 : World} {g gx n cap base : Nat} {window now : Int} {r : Value} {o : Obj} {cs : List Value} {xs : List LMark} (BK : Blk wc g 41 #[.int .i64 window, .int .i64 now, r]) (hg2 : (wc.alloc o).grownBy w2 none)
    (hown : w2.ownsRow base 43 2 (.slice (some ⟨gx, 0, none⟩) n cap) n cs) (hbase : g < base) (e : cs = xs.flatMap encM) (hn : xs.length = n) (hs : n ≤ 1000) :
    IsLow (w2.setCell ⟨g, 2, none⟩ (.slice (some ⟨gx, 0, none⟩) n cap)) g window now (some ⟨gx, 0, none⟩) cap xs := by
  have hb : Blk w2 g 41 #[.int .i64 window, .int .i64 now, r] := (BK.alloc o).grown hg2 (by simp)
  have hgx := (hown.lt gx rfl).1
  subst e
  refine ⟨(hb.set_ 2 _).eq (by simp [hn]), (Reps.own hown encM_len).set_ (p := ⟨g, 2, none⟩) (fun ad e => by cases e; simp only; omega) _, (fun ad e => by cases e; simp only; omega), (fun ad e => by cases e; obtain ⟨cs, h⟩ := row_blk hown; exact ⟨cs, h.far (p := ⟨g, 2, none⟩) (by simp only; omega) _⟩), ?_, by omega⟩
  rcases hown.2 with ⟨h, _⟩ | ⟨_, _, _, h, _, _, hle, _⟩
  · cases h
  · cases h; omega
theorem isLow_cut {wc : World} {g gx cap k2 n : Nat} {window now : Int} {m : List LMark} (I : IsLow wc g window now (some ⟨gx, 0, none⟩) cap m) (hn : m.length = n) (hk : k2 ≤ n) :
    IsLow (wc.setCell ⟨g, 2, none⟩ (.slice (some ⟨gx, k2 * 2, none⟩) (n - k2) (cap - k2))) g window now (some ⟨gx, k2 * 2, none⟩) (cap - k2) (m.drop k2) := by
  have hne := I.ne _ rfl
  have hle := I.le
  have hs := I.small
  have e : (⟨gx, 0, none⟩ : Addr).add (k2 * 2) = ⟨gx, k2 * 2, none⟩ := by unfold Addr.add; split <;> simp_all
  have hr := I.reps.drop k2
  rw [e] at hr
  refine ⟨(I.blk.set_ 2 _).eq (by simp [hn]), hr.set_ (p := ⟨g, 2, none⟩) (fun ad e => by cases e; exact hne) _, (fun ad e => by cases e; exact hne), (fun ad e => by cases e; obtain ⟨cs, h⟩ := I.ty _ rfl; exact ⟨cs, h.far (p := ⟨g, 2, none⟩) hne _⟩), ?_, ?_⟩
  · rw [List.length_drop]; omega
  · rw [List.length_drop]; omega
def AddPost (g : Nat) (window now : Int) (w : World) (l : List LMark) (e : Ending) (w' : World) : Prop :=
  e = .returned (.int .i64 0) ∧ (∃ A c, IsLow w' g window now A c l) ∧ w.grownBy w' (some g)
set_option maxRecDepth 100000 in
set_option maxHeartbeats 4000000 in
theorem add_good (g : Nat) (window last now v : Int) (A : Option Addr) (c : Nat) (l : List LMark) (w : World) (h : IsLow w g window last A c l) (hw : Wf l) (hr : Rises l) (h0 : 1 ≤ window) (h1 : window ≤ 4611686018427387904) (l0 : 0 ≤ last)
    (b1 : ¬ now < last) (b2 : ¬ now > 4611686018427387904) (b3 : ¬ v < 0) (b4 : ¬ v > 4611686018427387904) (hl : l.length < 1000) :
    Calls Try.prog 8 #[.pointer (some ⟨g, 0, none⟩), .int .i64 now, .int .i64 v] w (AddPost g window now w (added window now v l)) := by
  obtain ⟨i0, hi, hz0, hz1, hz2⟩ := info_parts markInfo
  have hle := h.le
  have hf : ∀ i, w.frozen? ⟨g, i, none⟩ = false := h.blk.frozen
  have c1 : w.cell? ⟨g, 1, none⟩ = some (.int .i64 last) := h.blk.cell 1
  have c2 : w.cell? ⟨g, 2, none⟩ = some (.slice A l.length c) := h.blk.cell 2
  have hbk : Blk (w.setCell ⟨g, 1, none⟩ (.int .i64 now)) g 41 #[.int .i64 window, .int .i64 now, .slice A l.length c] := (h.blk.set_ 1 _).eq rfl
  have hrp : Reps (w.setCell ⟨g, 1, none⟩ (.int .i64 now)) A 2 encM l := h.reps.set_ (p := ⟨g, 1, none⟩) (fun ad e => h.ne ad e) _
  have hgr : w.grownBy (w.setCell ⟨g, 1, none⟩ (.int .i64 now)) (some g) := grown_set (grown_refl _ _) _ _
  have hne := Lib.hid h.ne
  have BK := Lib.hid hbk
  have RP := Lib.hid hrp
  have GR := Lib.hid hgr
  have HW := Lib.hid hw
  have HR := Lib.hid hr
  clear h hbk hrp hgr hw hr
  go_enter Try.func8, Try.ntmps8
  go_wp2_with fail
  go_step3
  go_wp2_with fail
  obtain ⟨W, hW⟩ : ∃ W, W = w.setCell ⟨g, 1, none⟩ (.int .i64 now) := ⟨_, rfl⟩
  rw [← hW] at BK RP GR
  rw [← hW]
  clear hW c1 c2 hf
  have hf : ∀ i, W.frozen? ⟨g, i, none⟩ = false := BK.out.frozen
  have c2 : W.cell? ⟨g, 2, none⟩ = some (.slice A l.length c) := BK.out.cell 2
  go_step3
  go_upto_block 1 with fail
  go_cut [7] (fun n wx => ∃ k : Nat, k ≤ l.length ∧ n = .int .i64 k ∧ Hid (l.takeWhile (fun x : LMark => decide (x.v < v)) = l.take k) ∧ wx = W)
  case first =>
    go_wp2_with fail
    go_loop [7] (fun n => ∃ k : Nat, k ≤ l.length ∧ n = .int .i64 k ∧ Hid (∀ (i : Nat) (x : LMark), k ≤ i → l[i]? = some x → ¬ x.v < v)) (fun n => (intOf n).toNat)
    case atStart => exact ⟨l.length, Nat.le_refl _, rfl, Lib.hid (fun i x h1 h2 => by have := (List.getElem?_eq_some_iff.1 h2).1; omega)⟩
    case round =>
      obtain ⟨k, hk, rfl, hi⟩ := hrel
      by_cases hz : k = 0
      · subst hz
        have T := Lib.hid (rise_stop l v 0 HR.out (by omega) hi.out (.inl rfl))
        go_wp2_with fail
        go_meet
        exact ⟨0, by omega, rfl, T, rfl⟩
      · obtain ⟨m, rfl⟩ : ∃ m, k = m + 1 := ⟨k - 1, by omega⟩
        obtain ⟨x, hx⟩ : ∃ x, l[m]? = some x := ⟨_, List.getElem?_eq_getElem (by omega)⟩
        obtain ⟨ad, hA, had, k0, k1⟩ := cellAt RP.out hx
        subst hA
        obtain ⟨x0, x1, x2, x3⟩ := HW.out x (List.mem_of_getElem? hx)
        have hd : (((m : Int) + 1) == 0) = false := by simp; omega
        have hd2 : (((m + 1 : Nat) : Int) == 0) = false := by simp; omega
        have HX := Lib.hid hx
        clear hx hz
        by_cases hv : x.v < v
        · have T := Lib.hid (rise_stop l v (m + 1) HR.out hk hi.out (.inr ⟨x, HX.out, hv⟩))
          go_wp2_with fail
          go_meet
          exact ⟨m + 1, by omega, by go_num, T, rfl⟩
        · go_wp2
          go_round
          case rel => exact ⟨m, by omega, by go_num, Lib.hid (fun i y h1 h2 => by
            by_cases e : i = m
            · subst e; rw [HX.out] at h2; cases h2; omega
            · exact hi.out i y (by omega) h2)⟩
          case measure => simp [intOf]
  case rest =>
    obtain ⟨k, hk, rfl, T, rfl⟩ := hcut
    go_upto_region 9 with fail
    go_cut [] (fun wx => ∃ gx cap : Nat, Hid (IsLow wx g window now (some ⟨gx, 0, none⟩) cap (l.take k ++ [⟨now, v⟩])) ∧ Hid (w.grownBy wx (some g)))
    case first =>
      rcases A with _ | ad
      · obtain rfl : l = [] := by
          cases l with
          | nil => rfl
          | cons x t => obtain ⟨ad, e, _⟩ := RP.out 0 x rfl; cases e
        obtain rfl : k = 0 := by simpa using hk
        go_wp2_with (at_builtin; refine wpList_append_grows _ rfl (.tmp 64) (.tmp 68) 39 rfl 43 i0 (.agg #[.int .i64 0, .int .i64 0]) 2 16 Try.underlying39 hi hz0 hz1 hz2 rfl (by decide) none 0 0 ([]) (by rfl) (fun _ => ⟨rfl, rfl⟩) (by rfl) (fun _ _ j u h => absurd h (by simp)) ⟨wc.heap.size, 0, none⟩ 1 1 [.int .i64 now, .int .i64 v] (by rfl) (by rfl) (blk_cells _ _ _ _ (Blk.new wc 43 #[.int .i64 now, .int .i64 v])) (by simp [Value.oneCell']) (by omega) (by unfold maxLen; omega) (by omega) ?_; intro v2 w2 hown2 hg2; obtain ⟨gx, cap, rfl, hgx, hgl⟩ := hown2.form (by omega); have q2 := ((BK.out.alloc _).grown hg2 (by simp)).cell 2; have f2 := ((BK.out.alloc _).grown hg2 (by simp)).frozen 2; have HO := Lib.hid hown2; have HG := Lib.hid hg2; clear hown2 hg2)
        go_meet
        exact ⟨gx, cap, Lib.hid (isLow_added BK.out HG.out HO.out (by have := BK.out.lt; simp; omega) (by simp [encM]) (by simp) (by omega)), Lib.hid (grown_set (grown_trans (grown_alloc GR.out _) (grown_weak HG.out _)) _ _)⟩
      · have olen : ((l.take k).flatMap encM).length = k * 2 := by rw [flat_len encM_len, List.length_take]; congr 1; omega
        have ocel := Lib.hid (((RP.out.take k).alloc (.cells #[.int .i64 now, .int .i64 v] 43)).cells encM_len (by omega))
        have OL := Lib.hid olen
        clear olen
        go_wp2_with (at_builtin; refine wpList_append_grows _ rfl (.tmp 64) (.tmp 68) 39 rfl 43 i0 (.agg #[.int .i64 0, .int .i64 0]) 2 16 Try.underlying39 hi hz0 hz1 hz2 rfl (by decide) (some ad) k k ((l.take k).flatMap encM) (by rfl) (fun h => by cases h) (OL.out) (ocel.out) ⟨wc.heap.size, 0, none⟩ 1 1 [.int .i64 now, .int .i64 v] (by rfl) (by rfl) (blk_cells _ _ _ _ (Blk.new wc 43 #[.int .i64 now, .int .i64 v])) (by simp [Value.oneCell']) (by omega) (by unfold maxLen; omega) (by omega) ?_; intro v2 w2 hown2 hg2; obtain ⟨gx, cap, rfl, hgx, hgl⟩ := hown2.form (by omega); have q2 := ((BK.out.alloc _).grown hg2 (by simp)).cell 2; have f2 := ((BK.out.alloc _).grown hg2 (by simp)).frozen 2; have HO := Lib.hid hown2; have HG := Lib.hid hg2; clear hown2 hg2)
        go_meet
        exact ⟨gx, cap, Lib.hid (isLow_added BK.out HG.out HO.out (by have := BK.out.lt; simp; omega) (by simp [encM, List.flatMap_append]) (by simp; omega) (by omega)), Lib.hid (grown_set (grown_trans (grown_alloc GR.out _) (grown_weak HG.out _)) _ _)⟩
    case rest =>
      obtain ⟨gx, cap, I3, G3⟩ := hcut
      obtain ⟨m, hm⟩ : ∃ m : List LMark, m = l.take k ++ [⟨now, v⟩] := ⟨_, rfl⟩
      have hml : m.length = k + 1 := by rw [hm]; simp; omega
      have hmw : Wf m := by
        rw [hm]
        intro x hx
        rcases List.mem_append.1 hx with hx | hx
        · exact HW.out x (List.mem_of_mem_take hx)
        · have : x = ⟨now, v⟩ := by simpa using hx
          subst this
          exact ⟨(by show 0 ≤ now; omega), (by show now ≤ _; omega), (by show 0 ≤ v; omega), (by show v ≤ _; omega)⟩
      have hgo : goneN window now m ≤ k := by
        have h2 : m[k]? = some ⟨now, v⟩ := by
          have hl2 : (l.take k).length = k := by rw [List.length_take]; omega
          rw [hm, List.getElem?_append_right (by omega), hl2]
          simp
        have h3 : m.drop k = [⟨now, v⟩] := by
          rw [List.drop_eq_getElem_cons (by omega), (List.getElem?_eq_some_iff.1 h2).2, List.drop_eq_nil_of_le (by omega)]
        rcases Nat.lt_or_ge k (goneN window now m) with hlt | hge
        · exfalso
          unfold goneN at hlt
          have h4 := List.all_takeWhile (l := m) (p := fun x => !within window now x)
          have h5 : (m.takeWhile (fun x => !within window now x))[k]? = some ⟨now, v⟩ := by
            have hp := List.takeWhile_prefix (l := m) (fun x => !within window now x)
            rw [List.prefix_iff_eq_take] at hp
            rw [hp, List.getElem?_take, if_pos (by omega)]; exact h2
          have h6 := List.all_eq_true.1 h4 _ (List.mem_of_getElem? h5)
          simp [within] at h6
          omega
        · exact hge
      rw [← hm] at I3
      have hfin : added window now v l = m.drop (goneN window now m) := by rw [drop_gone, hm, added, T.out]
      obtain ⟨k2, hk2⟩ : ∃ k2, k2 = goneN window now m := ⟨_, rfl⟩
      have G := Lib.hid (fun n => gone_calls g window now now (some ⟨gx, 0, none⟩) cap m _ (I3.out.drewN n) hmw h0 h1 (by omega) (by omega))
      rw [← hk2] at hgo hfin G
      have HF := Lib.hid hfin
      have hle3 := I3.out.le
      have c3 : wc.cell? ⟨g, 2, none⟩ = some (.slice (some ⟨gx, 0, none⟩) m.length cap) := I3.out.blk.cell 2
      have f3 : ∀ i, wc.frozen? ⟨g, i, none⟩ = false := I3.out.blk.frozen
      rw [hml] at c3 hle3
      have i1 : (0 : Int) ≤ (k2 : Int) := by omega
      have i2 : (k2 : Int) ≤ ((k + 1 : Nat) : Int) := by omega
      have i3 : (k2 : Int) ≤ (cap : Int) := by omega
      have i4 : ¬ cap = k2 := by omega
      have i5 : ((k + 1 : Nat) : Int) ≤ (cap : Int) := by omega
      have HM := Lib.hid hml
      clear hk2 hfin hml hm hmw c2 hf RP BK T hi hz0 hz1 hz2 hne
      go_wp2_with fail
      go_region_with (first
        | (go_at_call 15
           refine (G.out 1).mono ?_
           rintro e w5 ⟨rfl, n5, rfl⟩))
      all_goals
        go_wp2
        rw [Exit.noGoto_ret]
        go_ret
        refine ⟨rfl, ⟨some ⟨gx, k2 * 2, none⟩, cap - k2, ?_⟩, grown_set (grown_drewN G3.out _) _ _⟩
        rw [HF.out]
        exact isLow_cut (I3.out.drewN _) HM.out (by omega)
end Go.Proofs.Ytglblmpdefejmaa.Low
