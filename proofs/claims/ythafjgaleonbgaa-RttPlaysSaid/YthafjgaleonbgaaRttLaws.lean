/- The walks of the laws of chapter 11 (rtt): whatever the input, the call answers true and turns nothing that was there. -/
import Derived.Test.YthafjgaleonbgaaRtt
namespace Go.Proofs.Ythafjgaleonbgaa.Rtt
open Go.RowKit Go.OpenShut Go.Proofs.Ythafjgaleonbgaa.Aid
attribute [local go_sem] max_2 min_2 max2_i min2_i
def Yes (w : World) (e : Ending) (w' : World) : Prop := e = .returned (.bool true) ∧ Below w.heap.size w w'
theorem backoff_nil (w : World) : Calls Try.prog 30 #[.pointer none] w fun e w' => e = .returned (.bool false) ∧ ∃ n, w' = w.drewN n := by
  go_enter Try.func30, Try.ntmps30
  go_wp2
  go_quiet (fail)
  go_wp2
  go_ret
  exact ⟨rfl, _, rfl⟩
theorem none_walk (r : Int) (w : World) : Calls Try.prog 10 #[.int .i64 r] w (Yes w) := by
  go_enter Try.func10, Try.ntmps10
  go_wp2_with fail
  refine (known_calls _).mono ?_
  rintro e w1 ⟨rfl, b1⟩
  go_wp2_with (first | (go_at_call 30; refine (backoff_nil _).mono ?_; rintro e w3 ⟨rfl, n3, rfl⟩) | (go_at_call 28; refine (known_calls _).mono ?_; rintro e w2 ⟨rfl, b2⟩) | go_in)
  go_ret
  exact ⟨rfl, below_then (below_drewN b1 _) b1.size b2⟩
structure Op where
  back : Bool
  r : Int
deriving Inhabited
def encOp (o : Op) : List Value := [.bool o.back, .int .i64 o.r]
theorem dbl_bd (most : Int) : ∀ (n : Nat) (t : Int), 0 ≤ t → t ≤ most → t ≤ dbl most n t ∧ dbl most n t ≤ most := by
  intro n
  induction n with
  | zero => intro t h0 h; exact ⟨Int.le_refl _, h⟩
  | succ n ih =>
    intro t h0 h
    unfold dbl
    split
    · have := ih (min (2 * t) most) (by omega) (by omega)
      omega
    · exact ⟨Int.le_refl _, h⟩
theorem rto_bd (s : Est) (ho : Ok s) : s.least ≤ rto s ∧ rto s ≤ s.most := by
  have := plain_bd s ho
  have h1 : 1 ≤ s.least := ho.1
  have := dbl_bd s.most s.doubled.toNat (plain s) (by omega) (by omega)
  unfold rto
  omega
/-- What holds between the rounds: the limits, the samples' least and greatest. -/
def Inv (least most lo hi : Int) (k : Nat) (s : Est) : Prop :=
  s.least = least ∧ s.most = most ∧ Ok s ∧ s.doubled ≤ k ∧ 0 ≤ lo ∧ lo ≤ 68719476736 ∧ 0 ≤ hi ∧ hi ≤ 68719476736 ∧ (s.has = true → lo ≤ s.srtt ∧ s.srtt ≤ hi)
theorem inv_back {least most lo hi : Int} {k : Nat} {s : Est} (h : Inv least most lo hi k s) (hk : k < 300) : Inv least most lo hi (k + 1) (backoff s).1 := by
  obtain ⟨h1, h2, h3, h4, h5, h6, h7, h8, h9⟩ := h
  unfold backoff
  split
  · exact ⟨h1, h2, h3, by simp only; omega, h5, h6, h7, h8, h9⟩
  · obtain ⟨o1, o2, o3, o4, o5, o6, o7, o8, o9⟩ := h3
    exact ⟨h1, h2, ⟨o1, o2, o3, o4, o5, o6, o7, by simp only; omega, by simp only; omega⟩, by simp only; omega, h5, h6, h7, h8, h9⟩
theorem inv_bad {least most lo hi : Int} {k : Nat} {s : Est} {r : Int} (h : Inv least most lo hi k s) (hr : r < 0 ∨ r > 68719476736) : (sample s r).2 = 3 ∧ Inv least most lo hi (k + 1) (sample s r).1 := by
  obtain ⟨h1, h2, h3, h4, h5, h6, h7, h8, h9⟩ := h
  rw [sample, if_pos hr]
  exact ⟨rfl, h1, h2, h3, by simp only; omega, h5, h6, h7, h8, h9⟩
theorem inv_good {least most lo hi : Int} {k : Nat} {s : Est} {r : Int} (h : Inv least most lo hi k s) (h0 : 0 ≤ r) (hr : r ≤ 68719476736) : (sample s r).2 = 0 ∧ Inv least most (min lo r) (max hi r) (k + 1) (sample s r).1 := by
  obtain ⟨h1, h2, ⟨o1, o2, o3, o4, o5, o6, o7, o8, o9⟩, h4, h5, h6, h7, h8, h9⟩ := h
  rw [sample, if_neg (by omega)]
  by_cases hh : s.has = false
  · rw [if_pos hh]
    exact ⟨rfl, h1, h2, ⟨o1, o2, o3, h0, hr, by simp only; omega, by simp only; omega, by simp only; omega, by simp only; omega⟩, by simp only; omega, by omega, by omega, by omega, by omega, fun _ => by simp only; omega⟩
  · rw [if_neg hh]
    have := h9 (by simpa using hh)
    refine ⟨rfl, h1, h2, ⟨o1, o2, o3, ?_, ?_, ?_, ?_, by simp only; omega, by simp only; omega⟩, by simp only; omega, by omega, by omega, by omega, by omega, fun _ => ?_⟩ <;> simp only <;> omega
set_option maxRecDepth 100000 in
set_option maxHeartbeats 4000000 in
theorem within_walk (least most : Int) (A : Option Addr) (c : Nat) (ops : List Op) (w : World) (hn : ops.length ≤ maxLen)
    (hw : ∀ o ∈ ops, -9223372036854775808 ≤ o.r ∧ o.r ≤ 9223372036854775807) (hr : Reps w A 2 encOp ops) :
    Calls Try.prog 7 #[.int .i64 least, .int .i64 most, .slice A ops.length c] w (Yes w) := by
  unfold maxLen at hn
  by_cases h0 : least < 1 ∨ most > 68719476736 ∨ least > most
  · go_enter Try.func7, Try.ntmps7
    go_wp2_with fail
    refine (known_calls _).mono ?_
    rintro e w1 ⟨rfl, b1⟩
    go_wp2_with fail
    refine (new_bad _ _ _ h0).mono ?_
    rintro e w2 ⟨rfl, rfl⟩
    go_wp2_with (first | (go_at_call 28; refine (known_calls _).mono ?_; rintro e w2 ⟨rfl, b2⟩))
    go_ret
    exact ⟨rfl, below_then b1 b1.size b2⟩
  · have h1 : ¬ least < 1 := by omega
    have h2 : ¬ most > 68719476736 := by omega
    have h3 : ¬ least > most := by omega
    clear h0
    have R := Lib.hid hr
    have HW := Lib.hid hw
    clear hr hw
    go_enter Try.func7, Try.ntmps7
    go_wp2_with fail
    refine (known_calls _).mono ?_
    rintro e w1 ⟨rfl, b1⟩
    go_wp2_with fail
    refine (new_ok _ _ _ (by omega) (by omega) (by omega)).mono ?_
    rintro e w2 ⟨rfl, e2, b2, s2⟩
    have E2 := Lib.hid e2
    have b3 := below_then b1 b1.size b2
    have hg := b1.size
    have I0 : Hid (Inv least most 68719476736 0 0 ⟨least, most, 0, 0, false, 0, 0⟩) := Lib.hid ⟨rfl, rfl, by simp only [Ok]; omega, by simp, by omega, by omega, by omega, by omega, by simp⟩
    generalize w1.heap.size = g at *
    clear e2 b1 b2 w1
    go_wp2_with fail
    go_loopw [9, 10, 11] (fun lo hi i wr => ∃ (k : Nat) (s : Est) (x y : Int), k ≤ ops.length ∧ k ≤ 300 ∧ i = .int .i64 k ∧ lo = .int .i64 x ∧ hi = .int .i64 y ∧ Hid (IsEst wr g s) ∧ Hid (Inv least most x y k s) ∧ Below w.heap.size w wr) (fun _ _ i _ => 300 - (intOf i).toNat)
    case atStart => exact ⟨0, _, _, _, by omega, by omega, rfl, rfl, rfl, E2, I0, b3⟩
    case round =>
      obtain ⟨k, s, x, y, hk, hk3, rfl, rfl, rfl, hE, hI, hB⟩ := hrel
      by_cases hlt : k < ops.length
      · by_cases hlt3 : k < 300
        · obtain ⟨op, hop⟩ : ∃ op, ops[k]? = some op := ⟨_, List.getElem?_eq_getElem hlt⟩
          obtain ⟨ad, rfl, hl, hc⟩ := (R.out.below hB) k op hop
          have hb := HW.out op (List.mem_of_getElem? hop)
          have c0 : wr.cell? (ad.add (k * 2)) = some (.bool op.back) := hc 0 _ rfl
          have c1 : wr.cell? ⟨(ad.add (k * 2)).block, (ad.add (k * 2)).off + 1, none⟩ = some (.int .i64 op.r) := (add_next ad (k * 2) 1 (by omega)) ▸ hc 1 _ rfl
          clear hc
          obtain ⟨back, r⟩ := op
          replace hop := Lib.hid hop
          simp only at *
          cases back with
          | true =>
            go_wp2_with fail
            refine (backoff_calls g s _ hE.out hI.out.2.2.1).mono ?_
            rintro e w4 ⟨rfl, e4, g4⟩
            have B4 : Below w.heap.size w w4 := below_grown hB hB.size g4 hg
            have I4 := inv_back hI.out hlt3
            clear hI hE c0 c1
            generalize (backoff s).2 = v4 at *
            generalize (backoff s).1 = s4 at *
            have o4 := I4.2.2.1
            have q1 : least ≤ rto s4 := I4.1 ▸ (rto_bd s4 o4).1
            have q2 : rto s4 ≤ most := I4.2.1 ▸ (rto_bd s4 o4).2
            have z1 : s4.has = true → x ≤ s4.srtt := fun h => (I4.2.2.2.2.2.2.2.2 h).1
            have z2 : s4.has = true → s4.srtt ≤ y := fun h => (I4.2.2.2.2.2.2.2.2 h).2
            obtain ⟨q, hq⟩ : ∃ q, q = rto s4 := ⟨_, rfl⟩
            rw [← hq] at q1 q2
            obtain ⟨z, hz⟩ : ∃ z, z = s4.srtt := ⟨_, rfl⟩
            rw [← hz] at z1 z2
            have HZ := Lib.hid hz
            have HQ := Lib.hid hq
            have J4 := Lib.hid I4
            have E4 : Hid (IsEst w4 g s4) := Lib.hid e4
            clear hq hz I4 e4
            go_wp2_with fail
            refine (rto_calls g s4 _ E4.out o4).mono ?_
            rintro e w5 ⟨rfl, n5, rfl⟩
            rw [← HQ.out]
            go_wp2_with fail
            refine (rto_calls g s4 _ (E4.out.drewN _) o4).mono ?_
            rintro e w6 ⟨rfl, n6, rfl⟩
            rw [← HQ.out]
            go_wp2_with fail
            refine (has_calls g s4 _ (E4.out.drewN _)).mono ?_
            rintro e w7 ⟨rfl, rfl⟩
            by_cases hh : s4.has = true
            · have z3 := z1 hh
              have z4 := z2 hh
              rw [hh]
              have HH := Lib.hid hh
              clear hh z1 z2
              go_wp2_with fail
              refine (srtt_calls g s4 _ (E4.out.drewN _)).mono ?_
              rintro e w7 ⟨rfl, rfl⟩
              rw [← HZ.out]
              go_wp2_with fail
              refine (srtt_calls g s4 _ (E4.out.drewN _)).mono ?_
              rintro e w7 ⟨rfl, rfl⟩
              rw [← HZ.out]
              go_wp2
              go_roundw
              case rel => exact ⟨k + 1, s4, x, y, by omega, by omega, by go_num, rfl, rfl, Lib.hid (E4.out.drewN _), J4, below_drewN B4 _⟩
              case measure => simp [intOf]; omega
            · rw [Bool.not_eq_true] at hh
              rw [hh]
              clear hh z1 z2
              go_wp2
              go_roundw
              case rel => exact ⟨k + 1, s4, x, y, by omega, by omega, by go_num, rfl, rfl, Lib.hid (E4.out.drewN _), J4, below_drewN B4 _⟩
              case measure => simp [intOf]; omega
          | false =>
            by_cases hr0 : r < 0 ∨ r > 68719476736
            · obtain ⟨a4, I4⟩ := inv_bad hI.out hr0
              go_wp2_with fail
              refine (sample_calls g s _ _ hE.out hI.out.2.2.1).mono ?_
              rintro e w4 ⟨rfl, e4, g4⟩
              have B4 : Below w.heap.size w w4 := below_grown hB hB.size g4 hg
              rw [a4]
              clear hI hE c0 c1 a4 hr0
              generalize (sample s r).1 = s4 at *
              have o4 := I4.2.2.1
              have q1 : least ≤ rto s4 := I4.1 ▸ (rto_bd s4 o4).1
              have q2 : rto s4 ≤ most := I4.2.1 ▸ (rto_bd s4 o4).2
              have z1 : s4.has = true → x ≤ s4.srtt := fun h => (I4.2.2.2.2.2.2.2.2 h).1
              have z2 : s4.has = true → s4.srtt ≤ y := fun h => (I4.2.2.2.2.2.2.2.2 h).2
              obtain ⟨q, hq⟩ : ∃ q, q = rto s4 := ⟨_, rfl⟩
              rw [← hq] at q1 q2
              obtain ⟨z, hz⟩ : ∃ z, z = s4.srtt := ⟨_, rfl⟩
              rw [← hz] at z1 z2
              have HZ := Lib.hid hz
              have HQ := Lib.hid hq
              have J4 := Lib.hid I4
              have E4 : Hid (IsEst w4 g s4) := Lib.hid e4
              clear hq hz I4 e4
              go_wp2_with fail
              refine (rto_calls g s4 _ E4.out o4).mono ?_
              rintro e w5 ⟨rfl, n5, rfl⟩
              rw [← HQ.out]
              go_wp2_with fail
              refine (rto_calls g s4 _ (E4.out.drewN _) o4).mono ?_
              rintro e w6 ⟨rfl, n6, rfl⟩
              rw [← HQ.out]
              go_wp2_with fail
              refine (has_calls g s4 _ (E4.out.drewN _)).mono ?_
              rintro e w7 ⟨rfl, rfl⟩
              by_cases hh : s4.has = true
              · have z3 := z1 hh
                have z4 := z2 hh
                rw [hh]
                have HH := Lib.hid hh
                clear hh z1 z2
                go_wp2_with fail
                refine (srtt_calls g s4 _ (E4.out.drewN _)).mono ?_
                rintro e w7 ⟨rfl, rfl⟩
                rw [← HZ.out]
                go_wp2_with fail
                refine (srtt_calls g s4 _ (E4.out.drewN _)).mono ?_
                rintro e w7 ⟨rfl, rfl⟩
                rw [← HZ.out]
                go_wp2
                go_roundw
                case rel => exact ⟨k + 1, s4, x, y, by omega, by omega, by go_num, rfl, rfl, Lib.hid (E4.out.drewN _), J4, below_drewN B4 _⟩
                case measure => simp [intOf]; omega
              · rw [Bool.not_eq_true] at hh
                rw [hh]
                clear hh z1 z2
                go_wp2
                go_roundw
                case rel => exact ⟨k + 1, s4, x, y, by omega, by omega, by go_num, rfl, rfl, Lib.hid (E4.out.drewN _), J4, below_drewN B4 _⟩
                case measure => simp [intOf]; omega
            · obtain ⟨a4, I4⟩ := inv_good hI.out (show 0 ≤ r by omega) (show r ≤ 68719476736 by omega)
              go_wp2_with fail
              refine (sample_calls g s _ _ hE.out hI.out.2.2.1).mono ?_
              rintro e w4 ⟨rfl, e4, g4⟩
              have B4 : Below w.heap.size w w4 := below_grown hB hB.size g4 hg
              have c4 : w4.cell? ⟨(ad.add (k * 2)).block, (ad.add (k * 2)).off + 1, none⟩ = some (.int .i64 r) := by
                obtain ⟨ad', ea, _, hc4⟩ := (R.out.below B4) k _ hop.out
                cases ea
                exact (add_next ad (k * 2) 1 (by omega)) ▸ hc4 1 _ rfl
              rw [a4]
              clear hI hE c0 c1 a4 hr0
              generalize (sample s r).1 = s4 at *
              have o4 := I4.2.2.1
              have q1 : least ≤ rto s4 := I4.1 ▸ (rto_bd s4 o4).1
              have q2 : rto s4 ≤ most := I4.2.1 ▸ (rto_bd s4 o4).2
              have z1 : s4.has = true → (min x r) ≤ s4.srtt := fun h => (I4.2.2.2.2.2.2.2.2 h).1
              have z2 : s4.has = true → s4.srtt ≤ (max y r) := fun h => (I4.2.2.2.2.2.2.2.2 h).2
              obtain ⟨q, hq⟩ : ∃ q, q = rto s4 := ⟨_, rfl⟩
              rw [← hq] at q1 q2
              obtain ⟨z, hz⟩ : ∃ z, z = s4.srtt := ⟨_, rfl⟩
              rw [← hz] at z1 z2
              have HZ := Lib.hid hz
              have HQ := Lib.hid hq
              have J4 := Lib.hid I4
              have E4 : Hid (IsEst w4 g s4) := Lib.hid e4
              clear hq hz I4 e4
              go_wp2_with fail
              refine (rto_calls g s4 _ E4.out o4).mono ?_
              rintro e w5 ⟨rfl, n5, rfl⟩
              rw [← HQ.out]
              go_wp2_with fail
              refine (rto_calls g s4 _ (E4.out.drewN _) o4).mono ?_
              rintro e w6 ⟨rfl, n6, rfl⟩
              rw [← HQ.out]
              go_wp2_with fail
              refine (has_calls g s4 _ (E4.out.drewN _)).mono ?_
              rintro e w7 ⟨rfl, rfl⟩
              by_cases hh : s4.has = true
              · have z3 := z1 hh
                have z4 := z2 hh
                rw [hh]
                have HH := Lib.hid hh
                clear hh z1 z2
                go_wp2_with fail
                refine (srtt_calls g s4 _ (E4.out.drewN _)).mono ?_
                rintro e w7 ⟨rfl, rfl⟩
                rw [← HZ.out]
                go_wp2_with fail
                refine (srtt_calls g s4 _ (E4.out.drewN _)).mono ?_
                rintro e w7 ⟨rfl, rfl⟩
                rw [← HZ.out]
                go_wp2
                go_roundw
                case rel => exact ⟨k + 1, s4, (min x r), (max y r), by omega, by omega, by go_num, rfl, rfl, Lib.hid (E4.out.drewN _), J4, below_drewN B4 _⟩
                case measure => simp [intOf]; omega
              · rw [Bool.not_eq_true] at hh
                rw [hh]
                clear hh z1 z2
                go_wp2
                go_roundw
                case rel => exact ⟨k + 1, s4, (min x r), (max y r), by omega, by omega, by go_num, rfl, rfl, Lib.hid (E4.out.drewN _), J4, below_drewN B4 _⟩
                case measure => simp [intOf]; omega
        · go_wp2_with (first | (go_at_call 28; refine (known_calls _).mono ?_; rintro e w2 ⟨rfl, b2⟩))
          go_ret
          exact ⟨rfl, below_then hB hB.size b2⟩
      · go_wp2_with (first | (go_at_call 28; refine (known_calls _).mono ?_; rintro e w2 ⟨rfl, b2⟩))
        go_ret
        exact ⟨rfl, below_then hB hB.size b2⟩
end Go.Proofs.Ythafjgaleonbgaa.Rtt
