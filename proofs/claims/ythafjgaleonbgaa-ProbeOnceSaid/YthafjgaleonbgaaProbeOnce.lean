/- The walk of ProbeOnce. -/
import Derived.Test.YthafjgaleonbgaaProbeLaws
import Derived.Deep.DeepCutAuto
import Derived.Deep.RegionHeld3
import Derived.Deep.DrawnRows
attribute [local go_sem ↓] Go.wp_at_zero Go.wp_at_succ
namespace Go.Proofs.Ythafjgaleonbgaa.Probe
open Go.BigFrame Go.RowKit Go.OpenShut Go.Proofs.Ythafjgaleonbgaa.Aid
structure Op where
  kind : Int
  end_ : Int
  again : Bool
  f : Int
  t : Int
  isDup : Bool
  bare : Bool
deriving Inhabited
def encOp (o : Op) : List Value := [.int .u8 o.kind, .int .i64 o.end_, .bool o.again, .int .i64 o.f, .int .i64 o.t, .bool o.isDup, .bool o.bare]
def Wf (o : Op) : Prop := (-9223372036854775808 ≤ o.end_ ∧ o.end_ ≤ 9223372036854775807) ∧ (-9223372036854775808 ≤ o.f ∧ o.f ≤ 9223372036854775807) ∧ (-9223372036854775808 ≤ o.t ∧ o.t ≤ 9223372036854775807)
theorem cellAt {w : World} {A : Option Addr} {l : List Op} (h : Reps w A 7 encOp l) {k : Nat} {x : Op} (hx : l[k]? = some x) :
    ∃ ad, A = some ad ∧ w.cell? ⟨(ad.add (k * 7)).block, (ad.add (k * 7)).off + 1, none⟩ = some (.int .i64 x.end_) ∧ w.cell? ⟨(ad.add (k * 7)).block, (ad.add (k * 7)).off + 3, none⟩ = some (.int .i64 x.f) ∧
      w.cell? ⟨(ad.add (k * 7)).block, (ad.add (k * 7)).off + 4, none⟩ = some (.int .i64 x.t) ∧ w.cell? ⟨(ad.add (k * 7)).block, (ad.add (k * 7)).off + 5, none⟩ = some (.bool x.isDup) ∧ w.cell? ⟨(ad.add (k * 7)).block, (ad.add (k * 7)).off + 6, none⟩ = some (.bool x.bare) := by
  obtain ⟨ad, e, _, hc⟩ := h k x hx
  refine ⟨ad, e, ?_, ?_, ?_, ?_, ?_⟩
  · rw [← add_next ad (k * 7) 1 (by omega)]; exact hc 1 _ rfl
  · rw [← add_next ad (k * 7) 3 (by omega)]; exact hc 3 _ rfl
  · rw [← add_next ad (k * 7) 4 (by omega)]; exact hc 4 _ rfl
  · rw [← add_next ad (k * 7) 5 (by omega)]; exact hc 5 _ rfl
  · rw [← add_next ad (k * 7) 6 (by omega)]; exact hc 6 _ rfl
def offPr : Pr := ⟨false, false, 0⟩
/-- What Told tells, told by cases. -/
theorem told_cases (s : Pr) (ack : Int) (isDup : Bool) (f t : Int) (bare : Bool) :
    (s.on = false ∧ told s ack isDup f t bare = (s, 0)) ∨ (s.on = true ∧ told s ack isDup f t bare = (s, 0) ∧ ack ≤ s.end_) ∨ (s.on = true ∧ told s ack isDup f t bare = (offPr, 1)) ∨ (s.on = true ∧ told s ack isDup f t bare = (offPr, 2) ∧ s.again = true ∧ s.end_ < ack) := by
  unfold told offPr
  cases ho : s.on with
  | false => exact .inl ⟨rfl, by simp⟩
  | true =>
    rw [if_neg (by decide)]
    by_cases h1 : twice s isDup f t = true
    · rw [if_pos h1]; exact .inr (.inr (.inl ⟨rfl, rfl⟩))
    rw [if_neg h1]
    by_cases h2 : ack < s.end_
    · rw [if_pos h2]; exact .inr (.inl ⟨rfl, rfl, by omega⟩)
    rw [if_neg h2]
    by_cases h3 : s.again = false
    · rw [if_pos h3]; exact .inr (.inr (.inl ⟨rfl, rfl⟩))
    rw [if_neg h3]
    have h3' : s.again = true := by simpa using h3
    by_cases h4 : s.end_ < ack
    · rw [if_pos h4]; exact .inr (.inr (.inr ⟨rfl, rfl, h3', h4⟩))
    rw [if_neg h4]
    by_cases h5 : bare = true
    · rw [if_pos h5]; exact .inr (.inr (.inl ⟨rfl, rfl⟩))
    rw [if_neg h5]; exact .inr (.inl ⟨rfl, rfl, by omega⟩)
/-- What holds between the rounds. -/
structure Inv (w W : World) (g : Nat) (e0 : Int) (a : Bool) (s : Pr) (lost : Int) : Prop where
  pr : IsPr W g s
  same : s.on = true → s.end_ = e0 ∧ s.again = a
  l0 : 0 ≤ lost
  l1 : lost ≤ 1
  off : s.on = true → lost = 0
  bel : Below w.heap.size w W
  wg : w.heap.size ≤ g
set_option maxRecDepth 100000 in
set_option maxHeartbeats 4000000 in
theorem once_walk (e0 : Int) (a : Bool) (A : Option Addr) (c : Nat) (l : List Op) (w : World) (hn : l.length ≤ maxLen) (hw : ∀ o ∈ l, Wf o) (hr : Reps w A 7 encOp l) :
    Calls Try.prog 11 #[.int .i64 e0, .bool a, .slice A l.length c] w (Yes w) := by
  unfold maxLen at hn
  have R := Lib.hid hr
  have HW := Lib.hid hw
  clear hr hw
  by_cases hb : e0 < 0 ∨ e0 > 4611686018427387904
  · go_enter Try.func11, Try.ntmps11
    go_wp2_with fail
    refine (known_calls _).mono ?_
    rintro e w1 ⟨rfl, b1⟩
    have B1 := Lib.hid b1
    clear b1
    have N := Lib.hid (new_pr w1)
    have S := Lib.hid (start_bad w1.heap.size zeroPr e0 a _ N.out rfl hb)
    clear hb
    go_wp2_with fail
    refine S.out.mono ?_
    rintro e w2 ⟨rfl, rfl⟩
    go_wp2_with fail
    refine (on_calls _ _ _ N.out).mono ?_
    rintro e w2 ⟨rfl, rfl⟩
    go_wp2_with fail
    refine (known_calls _).mono ?_
    rintro e w3 ⟨rfl, b3⟩
    go_wp2
    go_ret
    exact ⟨rfl, below_then (B1.out.alloc B1.out.size _) (by have := B1.out.size; simp; omega) b3⟩
  · have h0 : 0 ≤ e0 := by omega
    have h1 : e0 ≤ 4611686018427387904 := by omega
    clear hb
    go_enter Try.func11, Try.ntmps11
    go_wp2_with fail
    refine (known_calls _).mono ?_
    rintro e w1 ⟨rfl, b1⟩
    have B1 := Lib.hid b1
    clear b1
    have N := Lib.hid (new_pr w1)
    have S := Lib.hid (start_ok w1.heap.size zeroPr e0 a _ N.out rfl h0 h1)
    go_wp2_with fail
    refine S.out.mono ?_
    rintro e w2 ⟨rfl, p2, g2⟩
    have K0 : Hid (Inv w w2 w1.heap.size e0 a ⟨true, a, e0⟩ 0) := Lib.hid ⟨p2, fun _ => ⟨rfl, rfl⟩, by omega, by omega, fun _ => rfl, below_grown (B1.out.alloc B1.out.size _) (by have := B1.out.size; simp; omega) g2 B1.out.size, B1.out.size⟩
    generalize w1.heap.size = g at *
    clear p2 g2 N S B1 w1
    go_wp2_with fail
    go_loopw [8, 9] (fun lo i wr => ∃ (k : Nat) (s : Pr) (lost : Int), k ≤ l.length ∧ k ≤ 100 ∧ i = .int .i64 k ∧ lo = .int .i64 lost ∧ Hid (Inv w wr g e0 a s lost)) (fun _ i _ => 100 - (intOf i).toNat)
    case atStart => exact ⟨0, _, 0, by omega, by omega, rfl, rfl, K0⟩
    case round =>
      obtain ⟨k, s, lost, hk, hk2, rfl, rfl, hK⟩ := hrel
      have l0 := hK.out.l0
      have l1 := hK.out.l1
      by_cases hlt : k < l.length
      · by_cases hlt2 : k < 100
        · obtain ⟨x, hx⟩ : ∃ x, l[k]? = some x := ⟨_, List.getElem?_eq_getElem hlt⟩
          obtain ⟨ad, hA, k0, k1, k2, k3, k4⟩ := cellAt (R.out.below hK.out.bel) hx
          subst hA
          obtain ⟨⟨x0, x1⟩, hf, ht⟩ := HW.out x (List.mem_of_getElem? hx)
          have HX := Lib.hid hx
          have C := Lib.hid (fun n => told_calls g s x.end_ x.isDup x.f x.t x.bare _ (Blk.drewN hK.out.pr n) hf ht)
          unfold span at C
          clear hx K0 hf ht
          have TC := told_cases s x.end_ x.isDup x.f x.t x.bare
          rcases TC with ⟨o, e⟩ | ⟨o, e, h⟩ | ⟨o, e⟩ | ⟨o, e, h, h'⟩
          · as_aux_lemma =>
            rw [e] at C
            have O := Lib.hid (o ▸ on_calls g s wr hK.out.pr)
            clear e
            go_wp2_with fail
            refine O.out.mono ?_
            rintro e w2 ⟨rfl, rfl⟩
            go_upto_region 11 with fail
            go_region_held3 (fun w' => w'.cell? ⟨(ad.add (k * 7)).block, (ad.add (k * 7)).off + 1, none⟩ = some (.int .i64 x.end_) ∧ w'.cell? ⟨(ad.add (k * 7)).block, (ad.add (k * 7)).off + 3, none⟩ = some (.int .i64 x.f) ∧ w'.cell? ⟨(ad.add (k * 7)).block, (ad.add (k * 7)).off + 4, none⟩ = some (.int .i64 x.t) ∧ w'.cell? ⟨(ad.add (k * 7)).block, (ad.add (k * 7)).off + 5, none⟩ = some (.bool x.isDup) ∧ w'.cell? ⟨(ad.add (k * 7)).block, (ad.add (k * 7)).off + 6, none⟩ = some (.bool x.bare)) (go_keep) (first
              | (go_at_call 45
                 refine (C.out 1).mono ?_
                 rintro e w5 ⟨rfl, p5, g5⟩
                 have B5 := below_grown (below_drewN hK.out.bel 1) hK.out.bel.size g5 hK.out.wg
                 obtain ⟨ad', hA', q0, q1, q2, q3, q4⟩ := cellAt (R.out.below B5) HX.out
                 cases hA'))
            have P5 := Lib.hid p5
            have HB5 := Lib.hid B5
            have OC := Lib.hid (on_calls g _ w5 P5.out)
            clear p5 g5 B5 C O k0 k1 k2 k3 k4 q1 q2 q3 q4
            simp only [o] at OC
            by_cases gt : e0 < x.end_
            all_goals
              go_wp2_with (first | (go_at_call 44; refine OC.out.mono ?_; rintro e w6 ⟨rfl, rfl⟩))
              go_roundw
              case rel => exact ⟨k + 1, s, lost, by omega, by omega, by go_num, rfl, Lib.hid ⟨P5.out, hK.out.same, by omega, by omega, hK.out.off, HB5.out, hK.out.wg⟩⟩
              case measure => simp [intOf]; omega
          · as_aux_lemma =>
            rw [e] at C
            have O := Lib.hid (o ▸ on_calls g s wr hK.out.pr)
            obtain ⟨se, sa⟩ := hK.out.same o
            have ng : ¬ e0 < x.end_ := by omega
            clear se sa h
            clear e
            go_wp2_with fail
            refine O.out.mono ?_
            rintro e w2 ⟨rfl, rfl⟩
            go_upto_region 11 with fail
            go_region_held3 (fun w' => w'.cell? ⟨(ad.add (k * 7)).block, (ad.add (k * 7)).off + 1, none⟩ = some (.int .i64 x.end_) ∧ w'.cell? ⟨(ad.add (k * 7)).block, (ad.add (k * 7)).off + 3, none⟩ = some (.int .i64 x.f) ∧ w'.cell? ⟨(ad.add (k * 7)).block, (ad.add (k * 7)).off + 4, none⟩ = some (.int .i64 x.t) ∧ w'.cell? ⟨(ad.add (k * 7)).block, (ad.add (k * 7)).off + 5, none⟩ = some (.bool x.isDup) ∧ w'.cell? ⟨(ad.add (k * 7)).block, (ad.add (k * 7)).off + 6, none⟩ = some (.bool x.bare)) (go_keep) (first
              | (go_at_call 45
                 refine (C.out 1).mono ?_
                 rintro e w5 ⟨rfl, p5, g5⟩
                 have B5 := below_grown (below_drewN hK.out.bel 1) hK.out.bel.size g5 hK.out.wg
                 obtain ⟨ad', hA', q0, q1, q2, q3, q4⟩ := cellAt (R.out.below B5) HX.out
                 cases hA'))
            have P5 := Lib.hid p5
            have HB5 := Lib.hid B5
            have OC := Lib.hid (on_calls g _ w5 P5.out)
            clear p5 g5 B5 C O k0 k1 k2 k3 k4 q1 q2 q3 q4
            simp only [o] at OC
            go_wp2_with (first | (go_at_call 44; refine OC.out.mono ?_; rintro e w6 ⟨rfl, rfl⟩))
            go_roundw
            case rel => exact ⟨k + 1, s, lost, by omega, by omega, by go_num, rfl, Lib.hid ⟨P5.out, hK.out.same, by omega, by omega, hK.out.off, HB5.out, hK.out.wg⟩⟩
            case measure => simp [intOf]; omega
          · as_aux_lemma =>
            rw [e] at C
            have O := Lib.hid (o ▸ on_calls g s wr hK.out.pr)
            clear e
            go_wp2_with fail
            refine O.out.mono ?_
            rintro e w2 ⟨rfl, rfl⟩
            go_upto_region 11 with fail
            go_region_held3 (fun w' => w'.cell? ⟨(ad.add (k * 7)).block, (ad.add (k * 7)).off + 1, none⟩ = some (.int .i64 x.end_) ∧ w'.cell? ⟨(ad.add (k * 7)).block, (ad.add (k * 7)).off + 3, none⟩ = some (.int .i64 x.f) ∧ w'.cell? ⟨(ad.add (k * 7)).block, (ad.add (k * 7)).off + 4, none⟩ = some (.int .i64 x.t) ∧ w'.cell? ⟨(ad.add (k * 7)).block, (ad.add (k * 7)).off + 5, none⟩ = some (.bool x.isDup) ∧ w'.cell? ⟨(ad.add (k * 7)).block, (ad.add (k * 7)).off + 6, none⟩ = some (.bool x.bare)) (go_keep) (first
              | (go_at_call 45
                 refine (C.out 1).mono ?_
                 rintro e w5 ⟨rfl, p5, g5⟩
                 have B5 := below_grown (below_drewN hK.out.bel 1) hK.out.bel.size g5 hK.out.wg
                 obtain ⟨ad', hA', q0, q1, q2, q3, q4⟩ := cellAt (R.out.below B5) HX.out
                 cases hA'))
            have P5 := Lib.hid p5
            have HB5 := Lib.hid B5
            have OC := Lib.hid (on_calls g _ w5 P5.out)
            clear p5 g5 B5 C O k0 k1 k2 k3 k4 q1 q2 q3 q4
            simp only [offPr] at OC
            by_cases gt : e0 < x.end_
            all_goals
              go_wp2_with (first | (go_at_call 44; refine OC.out.mono ?_; rintro e w6 ⟨rfl, rfl⟩))
              go_roundw
              case rel => exact ⟨k + 1, offPr, lost, by omega, by omega, by go_num, rfl, Lib.hid ⟨P5.out, (fun h => by cases h), by omega, by omega, (fun h => by cases h), HB5.out, hK.out.wg⟩⟩
              case measure => simp [intOf]; omega
          · as_aux_lemma =>
            rw [e] at C
            have O := Lib.hid (o ▸ on_calls g s wr hK.out.pr)
            obtain ⟨se, sa⟩ := hK.out.same o
            have lz := hK.out.off o
            have ng : e0 < x.end_ := by omega
            have ha : a = true := by rw [← sa]; exact h
            subst ha
            subst lz
            clear se sa h h'
            clear e
            go_wp2_with fail
            refine O.out.mono ?_
            rintro e w2 ⟨rfl, rfl⟩
            go_upto_region 11 with fail
            go_region_held3 (fun w' => w'.cell? ⟨(ad.add (k * 7)).block, (ad.add (k * 7)).off + 1, none⟩ = some (.int .i64 x.end_) ∧ w'.cell? ⟨(ad.add (k * 7)).block, (ad.add (k * 7)).off + 3, none⟩ = some (.int .i64 x.f) ∧ w'.cell? ⟨(ad.add (k * 7)).block, (ad.add (k * 7)).off + 4, none⟩ = some (.int .i64 x.t) ∧ w'.cell? ⟨(ad.add (k * 7)).block, (ad.add (k * 7)).off + 5, none⟩ = some (.bool x.isDup) ∧ w'.cell? ⟨(ad.add (k * 7)).block, (ad.add (k * 7)).off + 6, none⟩ = some (.bool x.bare)) (go_keep) (first
              | (go_at_call 45
                 refine (C.out 1).mono ?_
                 rintro e w5 ⟨rfl, p5, g5⟩
                 have B5 := below_grown (below_drewN hK.out.bel 1) hK.out.bel.size g5 hK.out.wg
                 obtain ⟨ad', hA', q0, q1, q2, q3, q4⟩ := cellAt (R.out.below B5) HX.out
                 cases hA'))
            have P5 := Lib.hid p5
            have HB5 := Lib.hid B5
            have OC := Lib.hid (on_calls g _ w5 P5.out)
            clear p5 g5 B5 C O k0 k1 k2 k3 k4 q1 q2 q3 q4
            simp only [offPr] at OC
            go_wp2_with (first | (go_at_call 44; refine OC.out.mono ?_; rintro e w6 ⟨rfl, rfl⟩))
            go_roundw
            case rel => exact ⟨k + 1, offPr, 1, by omega, by omega, by go_num, rfl, Lib.hid ⟨P5.out, (fun h => by cases h), by omega, by omega, (fun h => by cases h), HB5.out, hK.out.wg⟩⟩
            case measure => simp [intOf]; omega
        · go_wp2_with (first | (go_at_call 42; refine (known_calls _).mono ?_; rintro e w2 ⟨rfl, b2⟩))
          go_ret
          exact ⟨rfl, below_then hK.out.bel hK.out.bel.size b2⟩
      · go_wp2_with (first | (go_at_call 42; refine (known_calls _).mono ?_; rintro e w2 ⟨rfl, b2⟩))
        go_ret
        exact ⟨rfl, below_then hK.out.bel hK.out.bel.size b2⟩
end Go.Proofs.Ythafjgaleonbgaa.Probe
