/- The walk of LowFalls. -/
import Derived.Test.YtglblmpdefejmaaLowLaws
attribute [local go_sem ↓] Go.wp_at_zero Go.wp_at_succ
namespace Go.Proofs.Ytglblmpdefejmaa.Low
open Go.RowKit Go.OpenShut Go.Proofs.Ytglblmpdefejmaa.Aid Go.Proofs.Ytglblmpdefejmaa.LowPlain
attribute [local go_sem] max_2 min_2 max2_i min2_i
/-- What holds between the rounds. -/
structure Kept (w : World) (g : Nat) (window last : Int) (m : List LMark) (k : Nat) : Prop where
  low : ∃ A c, IsLow w g window last A c m
  wf : Wf m
  rises : Rises m
  l0 : 0 ≤ last
  l1 : last ≤ 4611686018427387904
  len : m.length ≤ k
theorem Kept.drewN {w : World} {g : Nat} {window last : Int} {m : List LMark} {k : Nat} (h : Kept w g window last m k) (n : Nat) : Kept (w.drewN n) g window last m k :=
  ⟨by obtain ⟨A, c, h⟩ := h.low; exact ⟨A, c, h.drewN n⟩, h.wf, h.rises, h.l0, h.l1, h.len⟩
theorem Kept.more {w : World} {g : Nat} {window last : Int} {m : List LMark} {k : Nat} (h : Kept w g window last m k) : Kept w g window last m (k + 1) :=
  ⟨h.low, h.wf, h.rises, h.l0, h.l1, by have := h.len; omega⟩
theorem Kept.step {w w' : World} {g : Nat} {window last now v : Int} {m : List LMark} {k : Nat} (h : Kept w g window last m k) (hl : ∃ A c, IsLow w' g window now A c (added window now v m)) (b1 : last ≤ now) (b2 : now ≤ 4611686018427387904) (b3 : 0 ≤ v) (b4 : v ≤ 4611686018427387904) :
    Kept w' g window now (added window now v m) (k + 1) := by
  have := h.l0
  have hn := added_len window now v m
  have hk := h.len
  exact ⟨hl, added_wf window now v m h.wf ⟨by omega, b2, b3, b4⟩, added_rises window now v m h.rises, by omega, b2, by omega⟩
set_option maxRecDepth 100000 in
set_option maxHeartbeats 4000000 in
theorem falls_walk (window : Int) (A : Option Addr) (c : Nat) (l : List LMark) (a b : Int) (w : World) (hn : l.length ≤ maxLen)
    (hw : ∀ o ∈ l, (-9223372036854775808 ≤ o.at_ ∧ o.at_ ≤ 9223372036854775807) ∧ (-9223372036854775808 ≤ o.v ∧ o.v ≤ 9223372036854775807)) (hr : Reps w A 2 encM l) :
    Calls Try.prog 3 #[.int .i64 window, .slice A l.length c, .int .i64 a, .int .i64 b] w (Yes w) := by
  unfold maxLen at hn
  have R := Lib.hid hr
  have HW := Lib.hid hw
  clear hr hw
  by_cases h0 : window < 1 ∨ window > 4611686018427387904
  · go_enter Try.func3, Try.ntmps3
    go_wp2_with fail
    refine (known_calls _).mono ?_
    rintro e w1 ⟨rfl, b1⟩
    go_wp2_with fail
    refine (new_bad _ _ h0).mono ?_
    rintro e w2 ⟨rfl, rfl⟩
    go_wp2_with (first | (go_at_call 6; refine (known_calls _).mono ?_; rintro e w2 ⟨rfl, b2⟩))
    go_ret
    exact ⟨rfl, below_then b1 b1.size b2⟩
  · have h1 : ¬ window < 1 := by omega
    have h2 : ¬ window > 4611686018427387904 := by omega
    clear h0
    go_enter Try.func3, Try.ntmps3
    go_wp2_with fail
    refine (known_calls _).mono ?_
    rintro e w1 ⟨rfl, b1⟩
    go_wp2_with fail
    refine (new_ok _ _ (by omega) (by omega)).mono ?_
    rintro e w2 ⟨rfl, e2, b2, s2⟩
    have b3 := below_then b1 b1.size b2
    have hg := b1.size
    have K0 : Hid (Kept w2 w1.heap.size window 0 [] 0) := Lib.hid ⟨⟨_, _, e2⟩, by intro x hx; simp at hx, by simp [Rises], by omega, by omega, by simp⟩
    generalize w1.heap.size = g at *
    clear e2 b1 b2 w1
    go_wp2_with fail
    go_loopw [11] (fun i wr => ∃ (k : Nat) (m : List LMark) (last : Int), k ≤ l.length ∧ k ≤ 100 ∧ i = .int .i64 k ∧ Hid (Kept wr g window last m k) ∧ Hid (Below w.heap.size w wr)) (fun i _ => 100 - (intOf i).toNat)
    case atStart => exact ⟨0, [], 0, by omega, by omega, rfl, K0, Lib.hid b3⟩
    case round =>
      obtain ⟨k, m, last, hk, hk2, rfl, hK, hB⟩ := hrel
      by_cases hlt : k < l.length
      · by_cases hlt2 : k < 100
        · obtain ⟨x, hx⟩ : ∃ x, l[k]? = some x := ⟨_, List.getElem?_eq_getElem hlt⟩
          obtain ⟨ad, hA, had, k0, k1⟩ := cellAt (R.out.below hB.out) hx
          subst hA
          obtain ⟨⟨x0, x1⟩, ⟨x2, x3⟩⟩ := HW.out x (List.mem_of_getElem? hx)
          have HX := Lib.hid hx
          clear hx
          obtain ⟨A', c', hL⟩ := hK.out.low
          have HL := Lib.hid hL
          clear hL
          by_cases hb : x.at_ < last ∨ x.at_ > 4611686018427387904 ∨ x.v < 0 ∨ x.v > 4611686018427387904
          · have C := Lib.hid (fun n => add_bad g window last x.at_ x.v _ _ ((HL.out.blk).drewN n) hb)
            clear hb
            go_wp2_with fail
            go_region_held3 (fun w' => w'.cell? (ad.add (k * 2)) = some (.int .i64 x.at_) ∧ w'.cell? ⟨(ad.add (k * 2)).block, (ad.add (k * 2)).off + 1, none⟩ = some (.int .i64 x.v)) (go_keep) (first
              | (go_at_call 8
                 refine (C.out 1).mono ?_
                 rintro e w5 ⟨rfl, rfl⟩))
            go_wp2
            go_roundw
            case rel => exact ⟨k + 1, m, last, by omega, by omega, by go_num, Lib.hid (hK.out.more.drewN 1), Lib.hid (below_drewN hB.out 1)⟩
            case measure => simp [intOf]; omega
          · obtain ⟨b1, b2, b3, b4⟩ : last ≤ x.at_ ∧ x.at_ ≤ 4611686018427387904 ∧ 0 ≤ x.v ∧ x.v ≤ 4611686018427387904 := by omega
            clear hb
            have hl := hK.out.len
            have C := Lib.hid (fun n => add_good g window last x.at_ x.v _ _ m _ (HL.out.drewN n) hK.out.wf hK.out.rises (by omega) (by omega) hK.out.l0 (by omega) (by omega) (by omega) (by omega) (by omega))
            obtain ⟨u, hu, huv⟩ := min_added window x.at_ x.v m (by omega) b2
            have HU := Lib.hid hu
            clear hu
            have xl := hK.out.l0
            go_wp2_with fail
            go_region_held3 (fun w' => w'.cell? (ad.add (k * 2)) = some (.int .i64 x.at_) ∧ w'.cell? ⟨(ad.add (k * 2)).block, (ad.add (k * 2)).off + 1, none⟩ = some (.int .i64 x.v)) (go_keep) (first
              | (go_at_call 8
                 refine (C.out 1).mono ?_
                 rintro e w5 ⟨rfl, hl5, g5⟩
                 have B5 := below_grown (below_drewN hB.out 1) hB.out.size g5 hg
                 obtain ⟨ad', hA', _, q0, q1⟩ := cellAt (R.out.below B5) HX.out
                 cases hA'))
            have K5 := Lib.hid (hK.out.step hl5 b1 b2 b3 b4)
            have B5' := Lib.hid B5
            have S5 := Lib.hid g5
            obtain ⟨A5, c5, h5⟩ := hl5
            have L5 := Lib.hid h5
            clear h5 g5 B5 C k0 k1
            go_wp2_with fail
            refine (min_calls _ window x.at_ x.at_ _ _ _ _ L5.out K5.out.wf (by omega) (by omega) (by omega)).mono ?_
            rintro e w6 ⟨rfl, n6, rfl⟩
            rw [HU.out]
            go_wp2
            go_roundw
            case rel => exact ⟨k + 1, _, x.at_, by omega, by omega, by go_num, Lib.hid (K5.out.drewN _), Lib.hid (below_drewN B5'.out _)⟩
            case measure => simp [intOf]; omega
        · obtain ⟨A', c', hL⟩ := hK.out.low
          have HL := Lib.hid hL
          clear hL
          rcases min_form window last (min a b) m with ⟨u1, e1⟩ | e1 <;> rcases min_form window last (max a b) m with ⟨u2, e2⟩ | e2
          · have hu := min_falls window last (min a b) (max a b) u1 u2 m hK.out.rises (by omega) e1 e2
            have E1 := Lib.hid e1
            have E2 := Lib.hid e2
            clear e1 e2
            go_wp2_with fail
            refine (min_calls _ window last (min a b) _ _ _ _ HL.out hK.out.wf (by omega) (by omega) hK.out.l0).mono ?_
            rintro e w4 ⟨rfl, n4, rfl⟩
            rw [E1.out]
            go_wp2_with fail
            refine (min_calls _ window last (max a b) _ _ _ _ (HL.out.drewN _) hK.out.wf (by omega) (by omega) hK.out.l0).mono ?_
            rintro e w4 ⟨rfl, n5, rfl⟩
            rw [E2.out]
            go_wp2_with (first | (go_at_call 6; refine (known_calls _).mono ?_; rintro e w2 ⟨rfl, b2⟩))
            go_ret
            exact ⟨rfl, below_then (below_drewN hB.out _) hB.out.size b2⟩
          all_goals
            have E1 := Lib.hid e1
            have E2 := Lib.hid e2
            clear e1 e2
            go_wp2_with fail
            refine (min_calls _ window last (min a b) _ _ _ _ HL.out hK.out.wf (by omega) (by omega) hK.out.l0).mono ?_
            rintro e w4 ⟨rfl, n4, rfl⟩
            rw [E1.out]
            go_wp2_with fail
            refine (min_calls _ window last (max a b) _ _ _ _ (HL.out.drewN _) hK.out.wf (by omega) (by omega) hK.out.l0).mono ?_
            rintro e w4 ⟨rfl, n5, rfl⟩
            rw [E2.out]
            go_wp2_with (first | (go_at_call 6; refine (known_calls _).mono ?_; rintro e w2 ⟨rfl, b2⟩))
            go_ret
            exact ⟨rfl, below_then (below_drewN hB.out _) hB.out.size b2⟩
      · obtain ⟨A', c', hL⟩ := hK.out.low
        have HL := Lib.hid hL
        clear hL
        rcases min_form window last (min a b) m with ⟨u1, e1⟩ | e1 <;> rcases min_form window last (max a b) m with ⟨u2, e2⟩ | e2
        · have hu := min_falls window last (min a b) (max a b) u1 u2 m hK.out.rises (by omega) e1 e2
          have E1 := Lib.hid e1
          have E2 := Lib.hid e2
          clear e1 e2
          go_wp2_with fail
          refine (min_calls _ window last (min a b) _ _ _ _ HL.out hK.out.wf (by omega) (by omega) hK.out.l0).mono ?_
          rintro e w4 ⟨rfl, n4, rfl⟩
          rw [E1.out]
          go_wp2_with fail
          refine (min_calls _ window last (max a b) _ _ _ _ (HL.out.drewN _) hK.out.wf (by omega) (by omega) hK.out.l0).mono ?_
          rintro e w4 ⟨rfl, n5, rfl⟩
          rw [E2.out]
          go_wp2_with (first | (go_at_call 6; refine (known_calls _).mono ?_; rintro e w2 ⟨rfl, b2⟩))
          go_ret
          exact ⟨rfl, below_then (below_drewN hB.out _) hB.out.size b2⟩
        all_goals
          have E1 := Lib.hid e1
          have E2 := Lib.hid e2
          clear e1 e2
          go_wp2_with fail
          refine (min_calls _ window last (min a b) _ _ _ _ HL.out hK.out.wf (by omega) (by omega) hK.out.l0).mono ?_
          rintro e w4 ⟨rfl, n4, rfl⟩
          rw [E1.out]
          go_wp2_with fail
          refine (min_calls _ window last (max a b) _ _ _ _ (HL.out.drewN _) hK.out.wf (by omega) (by omega) hK.out.l0).mono ?_
          rintro e w4 ⟨rfl, n5, rfl⟩
          rw [E2.out]
          go_wp2_with (first | (go_at_call 6; refine (known_calls _).mono ?_; rintro e w2 ⟨rfl, b2⟩))
          go_ret
          exact ⟨rfl, below_then (below_drewN hB.out _) hB.out.size b2⟩
end Go.Proofs.Ytglblmpdefejmaa.Low
