/- Chapter 13 (alarm): however a time is parted: what holds between the calls. -/
import Derived.Test.YtiphkgkhfomcaaaDoesC
import Derived.Test.YtiphkgkhfomcaaaRings3
import Derived.Test.YtiphkgkhfomcaaaClockClone
set_option linter.unusedSimpArgs false
set_option linter.unusedVariables false
attribute [local go_sem ↓] Go.wp_at_zero Go.wp_at_succ
namespace Go.Proofs.Ytiphkgkhfomcaaa.Alarm
open Go.BigFrame Go.RowKit Go.OpenShut Go.Proofs.Ytiphkgkhfomcaaa.Aid Go.Proofs.Ytiphkgkhfomcaaa.DMap Go.Proofs.Ytiphkgkhfomcaaa.Heap
/-- An operation of the law's first loop. -/
theorem does_has {w wr wd w5 : World} {C : Nat} {A : List Int} (h : HasC w wr C ⟨0, A⟩) (kd nm n : Int) (hk0 : 0 ≤ kd) (hk : kd % 3 ≠ 2) (hf : Fits nm) (hb : Below wr.heap.size wr wd) {v' : Value} (hr : RefNew wd 0 (List.replicate 16 (-1)) v' w5) :
    Calls Try.prog 19 #[.pointer (some ⟨C, 0, Option.none⟩), refV 0 v', .agg #[.int .u8 kd, .int .i64 nm, .int .i64 n]] w5 (fun e w' => (∃ x, e = .returned x) ∧ ∃ A', HasC w w' C ⟨0, A'⟩) := by
  obtain ⟨B, h1, h2, h3⟩ := h
  have b5 := below_then hb hb.size hr.2.1
  have hv : ∀ k, v'.ownBlock = some k → ¬ B k := fun k hk e => by
    have := hr.2.2 k hk
    have := h1.lt k e
    have := hb.size
    omega
  have fin : ∀ e w', Done w5 B C v' (Alike ⟨0, A⟩ (List.replicate 16 (-1))) e w' → (∃ x, e = .returned x) ∧ ∃ A', HasC w w' C ⟨0, A'⟩ := fun e w' ⟨v2, B', c', A2, bv, he, a1, a2, a3, a4, a5, a6⟩ => by
    have b35 := below_then h3 h3.size b5
    obtain ⟨cn, cA⟩ := c'
    obtain rfl : cn = 0 := a6.1
    exact ⟨⟨_, he⟩, cA, B', a1, fun k hk => (a4 k hk).elim (h2 k) (fun e => Nat.le_trans b35.size e), kp_below b35 h2 a5⟩
  rcases (by omega : kd % 3 = 0 ∨ kd % 3 = 1) with h4 | h4
  · exact (does_set B C ⟨0, A⟩ v' kd nm n w5 (h1.below b5) (List.replicate 16 (-1)) hr.1 (by simp) hv h4 hk0).mono fin
  · exact (does_stop B C ⟨0, A⟩ v' kd nm n w5 (h1.below b5) (List.replicate 16 (-1)) hr.1 (by simp) hv h4 hk0 hf).mono fin
/-- Within the law's second loop: the clock c, its clone d, and what rang (xs is laid down, zs is what should be). -/
structure PS (w wr : World) (C D : Nat) (A0 A1 : List Int) (S : Int) (v : Value) (xs zs : List Int) (k : Nat) : Prop where
  ex : ∃ Bc Bd : Nat → Prop, Clk wr Bc C ⟨S, A1⟩ ∧ Clk wr Bd D ⟨0, A0⟩ ∧ (∀ j, Bc j → w.heap.size ≤ j) ∧ (∀ j, Bd j → w.heap.size ≤ j) ∧ (∀ j, Bc j → ¬ Bd j) ∧ ∀ j, v.ownBlock = some j → w.heap.size ≤ j ∧ ¬ Bc j ∧ ¬ Bd j
  row : RowOf 3 1 encI wr v xs
  comp : ∀ t, S ≤ t → adv t A0.length A0 = (zs ++ (adv t A1.length A1).1, (adv t A1.length A1).2)
  left : 1 ≤ k → ∀ j, 0 ≤ at_ A1 j → S < at_ A1 j
  len : A1.length = A0.length
  bel : Below w.heap.size w wr
theorem PS.below {w wr w2 : World} {C D : Nat} {A0 A1 : List Int} {S : Int} {v : Value} {xs zs : List Int} {k : Nat} (h : PS w wr C D A0 A1 S v xs zs k) (hb : Below wr.heap.size wr w2) : PS w w2 C D A0 A1 S v xs zs k := by
  obtain ⟨Bc, Bd, a1, a2, a3, a4, a5, a6⟩ := h.ex
  exact ⟨⟨Bc, Bd, a1.below hb, a2.below hb, a3, a4, a5, a6⟩, h.row.below hb, h.comp, h.left, h.len, below_then h.bel h.bel.size hb⟩
theorem ps_new {w wr w2 : World} {C D : Nat} {A0 : List Int} (h : HasC w wr C ⟨0, A0⟩) {Bd : Nat → Prop} (hd : Clk w2 Bd D ⟨0, A0⟩) (hB : ∀ j, Bd j → wr.heap.size ≤ j) (hb : Below wr.heap.size wr w2) : PS w w2 C D A0 A0 0 nilS [] [] 0 := by
  obtain ⟨Bc, h1, h2, h3⟩ := h
  refine ⟨⟨Bc, Bd, h1.below hb, hd, h2, fun j hj => Nat.le_trans h3.size (hB j hj), fun j hj e => ?_, fun j hj => by simp [Value.ownBlock] at hj⟩, .inl ⟨rfl, rfl⟩, fun t ht => rfl, fun h => by omega, rfl, below_then h3 h3.size hb⟩
  have := h1.lt j hj
  have := hB j e
  omega
theorem advance_ps {w wr : World} {C D : Nat} {A0 A1 : List Int} {S p : Int} {v : Value} {xs : List Int} {k : Nat} (h : PS w wr C D A0 A1 S v xs xs k) (h0 : 0 ≤ p) (h1 : p ≤ 4611686018427387904 - S) :
    Calls Try.prog 15 #[.pointer (some ⟨C, 0, Option.none⟩), .int .i64 p] wr (fun e w2 => ∃ vl ys A2, e = .returned (.tuple #[vl, .int .i64 0]) ∧ RowOf 3 1 encI w2 vl ys ∧ PS w w2 C D A0 A2 (S + p) v xs (xs ++ ys) (k + 1) ∧ (xs ++ ys).length ≤ 64) := by
  obtain ⟨Bc, Bd, a1, a2, a3, a4, a5, a6⟩ := h.ex
  refine (advance_calls Bc C ⟨S, A1⟩ p wr a1 h0 h1).mono ?_
  rintro e w2 ⟨vl, Bc', he, c1, c2, c3, c4, c5⟩
  have hs := h.bel.size
  have hcomp : ∀ t, S + p ≤ t → adv t A0.length A0 = ((xs ++ (adv (S + p) A1.length A1).1) ++ (adv t (adv (S + p) A1.length A1).2.length (adv (S + p) A1.length A1).2).1, (adv t (adv (S + p) A1.length A1).2.length (adv (S + p) A1.length A1).2).2) := fun t ht => by
    have e1 := h.comp t (by omega)
    have e2 := adv_comp (t1 := S + p) (t2 := t) ht A1.length A1 (adv (S + p) A1.length A1).2.length (cnt_le _) (cnt_le _)
    rw [e1, e2]
    simp
  refine ⟨vl, _, _, he, c2, ⟨⟨Bc', Bd, c1, a2.same (fun j hj => c5.block j (a2.lt j hj) (fun e => a5 j e hj)), fun j hj => (c4 j hj).elim (a3 j) (fun e => Nat.le_trans hs e), a4, fun j hj hd => ?_, fun j hj => ?_⟩, h.row.same (fun j hj => c5.block j (h.row.lt j hj) (a6 j hj).2.1), hcomp, fun _ j hj => adv_left _ _ _ (cnt_le _) j hj, by rw [adv_length]; exact h.len, kp_below h.bel a3 c5⟩, ?_⟩
  · rcases c4 j hj with e | e
    · exact a5 j e hd
    · have := a2.lt j hd; omega
  · refine ⟨(a6 j hj).1, fun e => ?_, (a6 j hj).2.2⟩
    rcases c4 j e with e2 | e2
    · exact (a6 j hj).2.1 e2
    · have := h.row.lt j hj; omega
  · have e1 := hcomp (S + p) (Int.le_refl _)
    have e2 := adv_count (S + p) A0.length A0
    rw [e1] at e2
    have e3 : A0.length ≤ 64 := a2.ok.len
    show (xs ++ (adv (S + p) A1.length A1).1).length ≤ 64
    rw [List.length_append] at e2
    omega
theorem ps_app {w w2 w3 : World} {C D : Nat} {A0 A2 : List Int} {S : Int} {v v' : Value} {xs zs : List Int} {k : Nat} (h : PS w w2 C D A0 A2 S v xs zs k) (ha : App w2 w3 v v') (hr : RowOf 3 1 encI w3 v' zs) : PS w w3 C D A0 A2 S v' zs zs k := by
  obtain ⟨Bc, Bd, a1, a2, a3, a4, a5, a6⟩ := h.ex
  have hs := h.bel.size
  refine ⟨⟨Bc, Bd, a1.same (fun j hj => ha.block j (a1.lt j hj) (fun e => (a6 j e).2.1 hj)), a2.same (fun j hj => ha.block j (a2.lt j hj) (fun e => (a6 j e).2.2 hj)), a3, a4, a5, fun j hj => ?_⟩, hr, h.comp, h.left, h.len, ⟨ha.os.trans h.bel.os, ha.tape.trans h.bel.tape, ha.output.trans h.bel.output, Nat.le_trans hs ha.size, fun j hj => (ha.block j (by omega) (fun e => by have := (a6 j e).1; omega)).trans (h.bel.block j hj)⟩⟩
  rcases ha.own j hj with e | e
  · exact a6 j e
  · exact ⟨by omega, fun hb => by have := a1.lt j hb; omega, fun hb => by have := a2.lt j hb; omega⟩
/-- The clone goes the whole way at once. -/
theorem advance_pd {w wr : World} {C D : Nat} {A0 A1 : List Int} {S : Int} {v : Value} {xs : List Int} {k : Nat} (h : PS w wr C D A0 A1 S v xs xs k) (hk : 1 ≤ k) (h0 : 0 ≤ S) (h1 : S ≤ 4611686018427387904) :
    Calls Try.prog 15 #[.pointer (some ⟨D, 0, Option.none⟩), .int .i64 S] wr (fun e w2 => ∃ vb, e = .returned (.tuple #[vb, .int .i64 0]) ∧ RowOf 3 1 encI w2 vb xs ∧ RowOf 3 1 encI w2 v xs ∧ HasC w w2 C ⟨S, A1⟩ ∧ HasC w w2 D ⟨S, A1⟩) := by
  obtain ⟨Bc, Bd, a1, a2, a3, a4, a5, a6⟩ := h.ex
  refine (advance_calls Bd D ⟨0, A0⟩ S wr a2 h0 (by show S ≤ 4611686018427387904 - 0; omega)).mono ?_
  rintro e w2 ⟨vb, Bd', he, c1, c2, c3, c4, c5⟩
  have hs := h.bel.size
  have e1 := h.comp S (Int.le_refl _)
  have e2 : adv S A1.length A1 = ([], A1) := by
    refine adv_stop ?_
    by_cases hb : best A1 < 0
    · exact .inl hb
    · obtain ⟨b, e3, _, e4, _⟩ := best_some hb
      exact .inr (by rw [e3, Int.toNat_natCast]; exact h.left hk b e4)
  rw [e2] at e1
  simp only [List.append_nil] at e1
  have e3 : (Ck.mk 0 A0).now + S = S := by show 0 + S = S; omega
  rw [e3, show (Ck.mk 0 A0).A = A0 from rfl, e1] at c1 c2
  have kb := kp_below h.bel a4 c5
  exact ⟨vb, he, c2, h.row.same (fun j hj => c5.block j (h.row.lt j hj) (a6 j hj).2.2), ⟨Bc, a1.same (fun j hj => c5.block j (a1.lt j hj) (fun e => a5 j hj e)), a3, kb⟩, ⟨Bd', c1, fun j hj => (c4 j hj).elim (a4 j) (fun e => Nat.le_trans hs e), kb⟩⟩
theorem len_has {w w3 : World} {C : Nat} {c : Ck} (h : HasC w w3 C c) : Calls Try.prog 23 #[.pointer (some ⟨C, 0, Option.none⟩)] w3 (Same w3 (.int .i64 (cnt c.A))) := by
  obtain ⟨B, h1, _, _⟩ := h
  exact len_calls B C c w3 h1
theorem row_nil {w : World} {A : Option Addr} {n c : Nat} {xs : List Int} (h : RowOf 3 1 encI w (.slice A n c) xs) (hA : A = Option.none) : c = 0 := by
  obtain ⟨h0, hx⟩ | ⟨b, cap, cur, h0, _⟩ := h
  · injection h0 with _ _ h5
  · rw [hA] at h0
    injection h0 with h4
    cases h4
end Go.Proofs.Ytiphkgkhfomcaaa.Alarm
