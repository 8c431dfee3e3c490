/- Chapter 25 (duct): one copy more than there is room for (law 8). -/
import Derived.Test.YtiphkgkhfomcaaaDuctKnown
set_option linter.unusedSimpArgs false
set_option linter.unusedVariables false
attribute [local go_sem ↓] Go.wp_at_zero Go.wp_at_succ
namespace Go.Proofs.Ytiphkgkhfomcaaa.Duct
open Go.BigFrame Go.RowKit Go.OpenShut Go.Proofs.Ytiphkgkhfomcaaa.Aid Go.Proofs.Ytiphkgkhfomcaaa.DMap Go.Proofs.Ytiphkgkhfomcaaa.Byt
/-- k copies of the same bytes are under way, and none other ever was. -/
structure FullOf (xs : List Int) (k : Nat) (L : Dt) : Prop where
  len : L.fates.length = k
  n : L.n = k
  last : L.last ≤ k
  raw : ∀ i : Nat, i < k → L.raws i = some xs
theorem full_empty (xs : List Int) : FullOf xs 0 empty := ⟨rfl, rfl, by simp [empty], fun i h => by omega⟩
theorem full_put {xs : List Int} {k : Nat} {L : Dt} (h : FullOf xs k L) (hk : k < 4096) (hx : xs.length ≤ 2096) : putR L xs k = ((k : Int), 0, putD L xs (-1) k k) ∧ FullOf xs (k + 1) (putD L xs (-1) k k) := by
  refine ⟨?_, by simp [putD, h.len], by simp [putD, h.n], by simp only [putD]; omega, fun i hi => ?_⟩
  · unfold putR
    rw [if_neg (by have := h.last; unfold bad; omega), if_neg (by omega), if_neg (by rw [h.n]; omega), h.len]
  · by_cases e : i = k
    · subst e
      simp [putD, h.len]
    · have e2 : ¬ (i : Int) = (L.fates.length : Int) := by rw [h.len]; omega
      simp only [putD, e2, if_false]
      exact h.raw i (by omega)
theorem full_more {xs : List Int} {L : Dt} (h : FullOf xs 4096 L) (hx : xs.length ≤ 2096) : putR L xs 4096 = (0, 4, L) := by
  unfold putR
  rw [if_neg (by have := h.last; unfold bad; omega), if_neg (by omega), if_pos (by rw [h.n]; omega)]
theorem full_double {xs : List Int} {L : Dt} (h : FullOf xs 4096 L) : doubleR L 3 4096 = (0, 4, L) := by
  unfold doubleR
  have := h.raw 3 (by omega)
  rw [if_neg (by have := h.last; unfold bad; omega)]
  rw [show L.raws 3 = some xs from this]
  simp only
  rw [if_pos (by rw [h.n]; omega)]
theorem full_take {xs : List Int} {L : Dt} (h : FullOf xs 4096 L) : ¬ bad L 4096 ∧ L.raws ((7 : Nat) : Int) = some xs := ⟨by have := h.last; unfold bad; omega, h.raw 7 (by omega)⟩
theorem full_again {xs : List Int} {L : Dt} (h : FullOf xs 4096 L) : ∃ L', doubleR (endD L 7 4096 1) 3 4096 = (4096, 0, L') ∧ L'.n = 4096 := by
  unfold doubleR
  have h3 : (endD L 7 4096 1).raws 3 = some xs := by
    have := h.raw 3 (by omega)
    simp only [endD]
    rw [if_neg (by omega)]
    exact this
  have hn : (endD L 7 4096 1).n = 4095 := by simp [endD, h.n]
  have hl : (endD L 7 4096 1).fates.length = 4096 := by simp [endD, h.len]
  rw [if_neg (by unfold bad; simp [endD]), h3]
  simp only
  rw [if_neg (by rw [hn]; omega), hl]
  exact ⟨_, rfl, by simp [putD, hn]⟩
theorem len_has (w W : World) (g mb : Nat) (L : Dt) (h : Has w W g mb L) : Calls Try.prog 32 #[.pointer (some ⟨g, 0, Option.none⟩)] W (Same W (.int .i64 L.n)) := by
  obtain ⟨fv, m, h⟩ := h
  exact len_calls g mb fv m L W h.d
theorem total_has (w W : World) (g mb : Nat) (L : Dt) (h : Has w W g mb L) : Calls Try.prog 33 #[.pointer (some ⟨g, 0, Option.none⟩)] W (Same W (.int .i64 L.fates.length)) := by
  obtain ⟨fv, m, h⟩ := h
  exact total_calls g mb fv m L W h.d
theorem Has.bel {w W : World} {g mb : Nat} {L : Dt} (h : Has w W g mb L) : Below w.heap.size w W := by
  obtain ⟨_, _, h⟩ := h
  exact h.bel
theorem reps_far {w : World} {A : Option Addr} {xs : List Int} (h : Reps w A 1 encB xs) (n c : Nat) : xs ≠ [] → ∀ k, (Value.slice A n c).ownBlock = some k → k < w.heap.size := fun hne k hk => by
  obtain ⟨x, hx⟩ : ∃ x, xs[0]? = some x := ⟨_, List.getElem?_eq_getElem (List.length_pos_iff.2 hne)⟩
  obtain ⟨ad, rfl, hl, _⟩ := h 0 x hx
  obtain rfl : ad.block = k := by simpa [Value.ownBlock] using hk
  exact hl
set_option maxRecDepth 100000 in
set_option maxHeartbeats 8000000 in
theorem full_walk (A : Option Addr) (c : Nat) (xs : List Int) (w : World) (hR : Reps w A 1 encB xs) (hA : A = Option.none → c = 0) (hl : xs.length ≤ maxLen) :
    Calls Try.prog 8 #[.slice A xs.length c] w (Gives w (.bool true)) := by
  unfold maxLen at hl
  have hA2 : A = Option.none → c = 0 ∧ xs = [] := fun e => ⟨hA e, by
    cases xs with
    | nil => rfl
    | cons x r =>
      obtain ⟨ad, e2, _⟩ := hR 0 x rfl
      rw [e] at e2
      cases e2⟩
  have HS := Lib.hid (show Byt.Src w (.slice A xs.length c) xs from ⟨A, c, rfl, hR, hA2⟩)
  have HF := Lib.hid (fun hne k hk => Or.inl (b := ∃ cs, Blk w k 5 cs) (reps_far hR xs.length c hne k hk))
  have HR := Lib.hid hR
  have PUT := Lib.hid (fun (W : World) (g mb : Nat) (L : Dt) (now : Int) (h : Has w W g mb L) (h2 : L.fates.length < 1000000) => put_has w W g mb L (.slice A xs.length c) xs now h (HS.out.below h.bel) h2 (by omega) (fun hne k hk => .inl (reps_far hR xs.length c hne k hk)))
  clear hR hA hA2
  by_cases hbig : 2096 < xs.length
  · have hb' : (2096 : Int) < (xs.length : Int) := by omega
    have e1 : putR empty xs 0 = (0, 9, empty) := by
      unfold putR
      rw [if_neg (by unfold bad; simp [empty]), if_pos hbig]
    have E1 := Lib.hid e1
    clear e1
    go_enter Try.func8, Try.ntmps8
    go_wp2_with fail
    refine (known_calls w).mono ?_
    rintro e w1 ⟨rfl, b1⟩
    have B1 := Lib.hid b1
    clear b1
    go_wp2_with fail
    refine (new_has w w1 B1.out).mono ?_
    rintro e w2 ⟨g, mb, rfl, h2⟩
    have P := PUT.out w2 g mb empty 0 h2 (by simp [empty])
    rw [E1.out] at P
    have HP := Lib.hid P
    clear P h2
    go_wp2_with fail
    refine HP.out.mono ?_
    rintro e w3 ⟨rfl, h3, _⟩
    have H3 := Lib.hid h3.bel
    clear h3
    go_wp2_with fail
    refine (known_calls w3).mono ?_
    rintro e w4 ⟨rfl, b4⟩
    have B4 := Lib.hid (below_then H3.out H3.out.size b4)
    clear b4
    go_wp2
    go_ret
    exact ⟨rfl, B4.out⟩
  · have hb' : (xs.length : Int) ≤ 2096 := by omega
    have hx : xs.length ≤ 2096 := by omega
    go_enter Try.func8, Try.ntmps8
    go_wp2_with fail
    refine (known_calls w).mono ?_
    rintro e w1 ⟨rfl, b1⟩
    have B1 := Lib.hid b1
    clear b1
    go_wp2_with fail
    refine (new_has w w1 B1.out).mono ?_
    rintro e w2 ⟨g, mb, rfl, h2⟩
    have H2 := Lib.hid h2
    clear h2
    go_wp2
    go_loopw [6] (fun i wr => ∃ (k : Nat) (L : Dt), k ≤ 4096 ∧ i = .int .i64 k ∧ Hid (FullOf xs k L ∧ Has w wr g mb L)) (fun i _ => 4096 - (intOf i).toNat)
    case atStart => exact ⟨0, empty, by omega, rfl, Lib.hid ⟨full_empty xs, H2.out⟩⟩
    case round =>
      obtain ⟨k, L, hk, rfl, hL⟩ := hrel
      clear H2
      by_cases hlt : k < 4096
      · obtain ⟨p1, p2⟩ := full_put hL.out.1 hlt hx
        have P := PUT.out wr g mb L k hL.out.2 (by have := hL.out.1.len; omega)
        rw [p1] at P
        have HP := Lib.hid P
        have HP2 := Lib.hid p2
        have hk4 : (k : Int) < 4096 := by omega
        clear P p1 p2
        go_wp2_with fail
        refine HP.out.mono ?_
        rintro e w3 ⟨rfl, h3, _⟩
        have H3 := Lib.hid h3
        clear h3
        go_wp2
        go_roundw
        case rel => exact ⟨k + 1, _, by omega, by go_num, Lib.hid ⟨HP2.out, H3.out⟩⟩
        case measure => simp [intOf]; omega
      · obtain rfl : k = 4096 := by omega
        have P := PUT.out wr g mb L 4096 hL.out.2 (by have := hL.out.1.len; omega)
        rw [full_more hL.out.1 hx] at P
        have HP := Lib.hid P
        clear P
        go_wp2_with fail
        refine HP.out.mono ?_
        rintro e w3 ⟨rfl, h3, _⟩
        have H3 := Lib.hid h3
        clear h3 HP
        have P := double_has w w3 g mb L 3 4096 H3.out ⟨by omega, by omega⟩ (by have := hL.out.1.len; omega)
        rw [full_double hL.out.1] at P
        have HP := Lib.hid P
        clear P
        go_wp2_with fail
        refine HP.out.mono ?_
        rintro e w4 ⟨rfl, h4, _⟩
        have H4 := Lib.hid h4
        clear h4 HP H3
        have HP := Lib.hid (take_has w w4 g mb L 7 4096 xs H4.out (full_take hL.out.1).1 (full_take hL.out.1).2)
        go_wp2_with fail
        refine HP.out.mono ?_
        rintro e w5 ⟨v, rfl, hrow, h5, _⟩
        obtain ⟨vA, vn, vc, rfl⟩ := hrow.some_slice
        have H5 := Lib.hid h5
        have HRow := Lib.hid hrow
        clear h5 HP H4 hrow
        obtain ⟨L', e6, hn6⟩ := full_again hL.out.1
        have P := double_has w w5 g mb _ 3 4096 H5.out ⟨by omega, by omega⟩ (by have := hL.out.1.len; simp [endD]; omega)
        rw [e6] at P
        have HP := Lib.hid P
        have HN6 := Lib.hid hn6
        clear P e6 hn6
        go_wp2_with fail
        refine HP.out.mono ?_
        rintro e w6 ⟨rfl, h6, kb⟩
        have H6 := Lib.hid h6
        have hrow6 := kb _ _ HRow.out
        obtain ⟨vA', vc', ev, hvA⟩ := hrow6.reps encB_len
        injection ev with ev1 ev2 ev3
        subst ev1 ev2 ev3
        have HV := Lib.hid hvA.2
        clear h6 kb hrow6 hvA HP H5 HRow
        have SM := Lib.hid (same_calls vA A vc c xs w6 HV.out (HR.out.below H6.out.bel) (by omega))
        go_wp2_with fail
        refine SM.out.mono ?_
        rintro e w7 ⟨rfl, b7⟩
        have H7 := Lib.hid (H6.out.below b7)
        clear b7 H6 HV SM
        have LN := Lib.hid (len_has w w7 g mb L' H7.out)
        rw [HN6.out] at LN
        go_wp2_with fail
        refine LN.out.mono ?_
        rintro e w8 ⟨rfl, rfl⟩
        go_wp2_with fail
        refine (known_calls w7).mono ?_
        rintro e w9 ⟨rfl, b9⟩
        have B9 := Lib.hid (below_then H7.out.bel H7.out.bel.size b9)
        clear b9
        go_wp2
        go_ret
        exact ⟨rfl, B9.out⟩
end Go.Proofs.Ytiphkgkhfomcaaa.Duct
