/- Chapter 13 (alarm): same, known; a clock of the call's own. -/
import Derived.Test.YtiphkgkhfomcaaaAdvance
set_option linter.unusedSimpArgs false
set_option linter.unusedVariables false
attribute [local go_sem ↓] Go.wp_at_zero Go.wp_at_succ
namespace Go.Proofs.Ytiphkgkhfomcaaa.Alarm
open Go.BigFrame Go.RowKit Go.OpenShut Go.Proofs.Ytiphkgkhfomcaaa.Aid Go.Proofs.Ytiphkgkhfomcaaa.DMap Go.Proofs.Ytiphkgkhfomcaaa.Heap
theorem same_calls (A B : Option Addr) (c d : Nat) (xs : List Int) (w : World) (hA : Reps w A 1 encI xs) (hB : Reps w B 1 encI xs) (hl : xs.length ≤ 9223372036854775807) : Calls Try.prog 22 #[.slice A xs.length c, .slice B xs.length d] w (Gives w (.bool true)) := by
  have RA := Lib.hid hA
  have RB := Lib.hid hB
  clear hA hB
  go_enter Try.func22, Try.ntmps22
  go_wp2
  go_loopw [5] (fun i wr => ∃ k : Nat, k ≤ xs.length ∧ i = .int .i64 k ∧ Hid (Below w.heap.size w wr)) (fun i _ => xs.length - (intOf i).toNat)
  case atStart => exact ⟨0, by omega, rfl, Lib.hid (Below.refl _ _)⟩
  case round =>
    obtain ⟨k, hk, rfl, hW⟩ := hrel
    by_cases hlt : k < xs.length
    · obtain ⟨x, hx⟩ : ∃ x, xs[k]? = some x := ⟨_, List.getElem?_eq_getElem hlt⟩
      obtain ⟨ad, rfl, had, hc⟩ := (RA.out.below hW.out) k x hx
      obtain ⟨bd, rfl, hbd, hc'⟩ := (RB.out.below hW.out) k x hx
      have c0 : wr.cell? (ad.add k) = some (.int .i64 x) := by have := hc 0 _ rfl; simpa using this
      have c1 : wr.cell? (bd.add k) = some (.int .i64 x) := by have := hc' 0 _ rfl; simpa using this
      have q0 : (0 : Int) ≤ (k : Int) := by omega
      have q1 : (k : Int) < (xs.length : Int) := by omega
      clear hc hc' hx
      go_wp2
      go_quiet (fail)
      go_wp2
      go_roundw
      case rel => exact ⟨k + 1, by omega, by go_num, Lib.hid (below_drewN hW.out _)⟩
      case measure => simp [intOf]; omega
    · obtain rfl : k = xs.length := by omega
      go_wp2
      go_ret
      exact ⟨rfl, hW.out⟩
theorem same_n (A B : Option Addr) (c d n m : Nat) (xs : List Int) (w : World) (hA : Reps w A 1 encI xs) (hB : Reps w B 1 encI xs) (hn : xs.length = n) (hm : xs.length = m) (hl : n ≤ 9223372036854775807) : Calls Try.prog 22 #[.slice A n c, .slice B m d] w (Gives w (.bool true)) := by
  subst hn hm
  exact same_calls A B c d xs w hA hB hl
/-- A clock that a call has made. -/
def HasC (w w3 : World) (C : Nat) (c : Ck) : Prop := ∃ B, Clk w3 B C c ∧ (∀ k, B k → w.heap.size ≤ k) ∧ Below w.heap.size w w3
theorem HasC.bel {w w3 : World} {C : Nat} {c : Ck} (h : HasC w w3 C c) : Below w.heap.size w w3 := by
  obtain ⟨B, _, _, hb⟩ := h
  exact hb
theorem HasC.below {w w3 w4 : World} {C : Nat} {c : Ck} (h : HasC w w3 C c) (hb : Below w3.heap.size w3 w4) : HasC w w4 C c := by
  obtain ⟨B, h1, h2, h3⟩ := h
  exact ⟨B, h1.below hb, h2, below_then h3 h3.size hb⟩
theorem kp_below {w w3 w4 : World} {B : Nat → Prop} (h3 : Below w.heap.size w w3) (hB : ∀ k, B k → w.heap.size ≤ k) (hk : Kp B w3 w4) : Below w.heap.size w w4 :=
  ⟨hk.os.trans h3.os, hk.tape.trans h3.tape, hk.output.trans h3.output, Nat.le_trans h3.size hk.size, fun k h => (hk.block k (Nat.lt_of_lt_of_le h h3.size) (fun hb => by have := hB k hb; omega)).trans (h3.block k h)⟩
theorem HasC.turn {w w3 w4 : World} {C : Nat} {c' : Ck} {B : Nat → Prop} {v : Value} {e : Ending} (h2 : ∀ k, B k → w.heap.size ≤ k) (h3 : Below w.heap.size w w3) (ht : Turns w3 B C c' v e w4) : e = .returned v ∧ HasC w w4 C c' := by
  obtain ⟨he, B', h4, h5, h6⟩ := ht
  exact ⟨he, B', h4, fun k hk => (h5 k hk).elim (h2 k) (fun h => Nat.le_trans h3.size h), kp_below h3 h2 h6⟩
theorem new_has (n : Nat) (w w3 : World) (h1 : 1 ≤ n) (h2 : n ≤ 64) (hb : Below w.heap.size w w3) : Calls Try.prog 12 #[.int .i64 n] w3 (fun e w' => ∃ C, e = .returned (.tuple #[.pointer (some ⟨C, 0, Option.none⟩), .int .i64 0]) ∧ HasC w w' C (fresh n)) :=
  (new_calls n w3 h1 h2).mono fun e w' ⟨C, B, he, h3, h4, h5⟩ => ⟨C, he, B, h3, fun k hk => Nat.le_trans hb.size (h4 k hk), below_then hb hb.size h5⟩
theorem set_has {w w3 : World} {C : Nat} {c : Ck} (h : HasC w w3 C c) (nm : Nat) (a : Int) (hn : nm < c.A.length) (ha : c.now ≤ a) (hb : a ≤ 4611686018427387904) : Calls Try.prog 13 #[.pointer (some ⟨C, 0, Option.none⟩), .int .i64 nm, .int .i64 a] w3 (fun e w' => e = .returned (.int .i64 0) ∧ HasC w w' C ⟨c.now, c.A.set nm a⟩) := by
  obtain ⟨B, h1, h2, h3⟩ := h
  exact (set_calls B C c nm a w3 h1 hn ha hb).mono fun e w' ht => HasC.turn h2 h3 ht
theorem next_has {w w3 : World} {C : Nat} {c : Ck} (h : HasC w w3 C c) (b : Nat) (hb : best c.A = b) : Calls Try.prog 16 #[.pointer (some ⟨C, 0, Option.none⟩)] w3 (Gives w3 (.tuple #[.int .i64 b, .int .i64 (at_ c.A b), .bool true])) := by
  obtain ⟨B, h1, _, _⟩ := h
  exact next_some B C c b w3 h1 hb
theorem next_hasno {w w3 : World} {C : Nat} {c : Ck} (h : HasC w w3 C c) (hb : best c.A < 0) : Calls Try.prog 16 #[.pointer (some ⟨C, 0, Option.none⟩)] w3 (Gives w3 (.tuple #[.int .i64 0, .int .i64 0, .bool false])) := by
  obtain ⟨B, h1, _, _⟩ := h
  exact next_none B C c w3 h1 hb
theorem now_has {w w3 : World} {C : Nat} {c : Ck} (h : HasC w w3 C c) : Calls Try.prog 17 #[.pointer (some ⟨C, 0, Option.none⟩)] w3 (Same w3 (.int .i64 c.now)) := by
  obtain ⟨B, h1, _, _⟩ := h
  exact now_calls B C c w3 h1
theorem advance_has {w w3 : World} {C : Nat} {c : Ck} (h : HasC w w3 C c) (dt : Int) (h0 : 0 ≤ dt) (h1 : dt ≤ 4611686018427387904 - c.now) : Calls Try.prog 15 #[.pointer (some ⟨C, 0, Option.none⟩), .int .i64 dt] w3 (fun e w' => ∃ v, e = .returned (.tuple #[v, .int .i64 0]) ∧ HasC w w' C ⟨c.now + dt, (adv (c.now + dt) c.A.length c.A).2⟩ ∧ RowOf 3 1 encI w' v (adv (c.now + dt) c.A.length c.A).1) := by
  obtain ⟨B, h2, h3, h4⟩ := h
  exact (advance_calls B C c dt w3 h2 h0 h1).mono fun e w' ⟨v, B', he, a1, a2, a3, a4, a5⟩ => ⟨v, he, ⟨B', a1, fun k hk => (a4 k hk).elim (h3 k) (fun h => Nat.le_trans h4.size h), kp_below h4 h3 a5⟩, a2⟩
theorem k1 : (fresh 3).A.set 1 5 = [-1, 5, -1] := rfl
theorem k2 : ([-1, 5, -1] : List Int).set 0 5 = [5, 5, -1] := rfl
theorem k3 : ([5, 5, -1] : List Int).set 2 3 = [5, 5, 3] := rfl
theorem k4 : best [5, 5, 3] = ((2 : Nat) : Int) := by decide
theorem k5 : adv 5 3 [5, 5, 3] = ([2, 0, 1], [-1, -1, -1]) := by decide
theorem reps_three (w : World) : Reps (w.alloc (.cells #[.int .i64 2, .int .i64 0, .int .i64 1] 3)) (some ⟨w.heap.size, 0, Option.none⟩) 1 encI [2, 0, 1] := by
  have X := Blk.new w 3 #[.int .i64 2, .int .i64 0, .int .i64 1]
  intro i x hx
  have hi : i < 3 := by have := (List.getElem?_eq_some_iff.1 hx).1; simpa using this
  refine ⟨_, rfl, by simp, fun j v hv => ?_⟩
  have hj : j = 0 := by have := (List.getElem?_eq_some_iff.1 hv).1; simp [encI] at this; omega
  subst hj
  obtain rfl : Value.int .i64 x = v := by simpa [encI] using hv
  rw [add0, X.cell]
  have hi' : i = 0 ∨ i = 1 ∨ i = 2 := by omega
  rcases hi' with rfl | rfl | rfl <;> simpa using hx
set_option maxRecDepth 100000 in
set_option maxHeartbeats 2000000 in
theorem known_calls (w : World) : Calls Try.prog 11 #[] w (Gives w (.bool true)) := by
  go_enter Try.func11, Try.ntmps11
  go_wp2_with fail
  refine (new_has 3 w w (by omega) (by omega) (Below.refl _ _)).mono ?_
  rintro e w1 ⟨C, rfl, h1⟩
  have K := Lib.hid (set_has h1 1 5 (by simp [fresh]) (by simp [fresh]) (by omega))
  rw [k1] at K
  clear h1
  go_wp2_with fail
  refine K.out.mono ?_
  rintro e w2 ⟨rfl, h2⟩
  have K := Lib.hid (set_has h2 0 5 (by simp) (by simp [fresh]) (by omega))
  rw [show (Ck.mk (fresh 3).now [-1, 5, -1]).A = [-1, 5, -1] from rfl, k2] at K
  clear h2
  go_wp2_with fail
  refine K.out.mono ?_
  rintro e w3 ⟨rfl, h3⟩
  have K := Lib.hid (set_has h3 2 3 (by simp) (by simp [fresh]) (by omega))
  rw [show (Ck.mk (Ck.mk (fresh 3).now [-1, 5, -1]).now [5, 5, -1]).A = [5, 5, -1] from rfl, k3] at K
  clear h3
  go_wp2_with fail
  refine K.out.mono ?_
  rintro e w4 ⟨rfl, h4⟩
  have h4 : HasC w w4 C ⟨0, [5, 5, 3]⟩ := h4
  have H4 := Lib.hid h4
  have K : Hid (Calls Try.prog 16 #[.pointer (some ⟨C, 0, Option.none⟩)] w4 (Gives w4 (.tuple #[.int .i64 2, .int .i64 3, .bool true]))) := Lib.hid (next_has h4 2 k4)
  clear h4
  go_wp2_with fail
  refine K.out.mono ?_
  rintro e w5 ⟨rfl, b5⟩
  have H5 := Lib.hid (H4.out.below b5)
  clear b5 H4
  have K := Lib.hid (advance_has H5.out 5 (by omega) (by simp))
  rw [show (Ck.mk 0 [5, 5, 3]).now + 5 = 5 from rfl, show (Ck.mk 0 [5, 5, 3]).A.length = 3 from rfl, show (Ck.mk 0 [5, 5, 3]).A = [5, 5, 3] from rfl, k5] at K
  go_wp2_with fail
  refine K.out.mono ?_
  rintro e w6 ⟨v, rfl, h6, r6⟩
  have H6 := Lib.hid h6
  obtain ⟨A, c, rfl, _, hR⟩ := r6.reps encI_len
  have HR := Lib.hid hR
  clear h6 r6 hR H5 K
  go_wp2_with fail
  have b7 : Below w6.heap.size w6 (w6.alloc (.cells #[.int .i64 2, .int .i64 0, .int .i64 1] 3)) := (Below.refl _ w6).alloc (Nat.le_refl _) _
  have H7 := Lib.hid (H6.out.below b7)
  refine (same_n A _ c 3 3 3 [2, 0, 1] _ (HR.out.below b7) (reps_three w6) rfl rfl (by omega)).mono ?_
  rintro e w8 ⟨rfl, b8⟩
  have H8 := Lib.hid (H7.out.below b8)
  clear b7 b8
  go_wp2_with fail
  refine (now_has H8.out).mono ?_
  rintro e w9 ⟨rfl, rfl⟩
  go_wp2
  go_ret
  exact ⟨rfl, H8.out.bel⟩
theorem stop_has {w w3 : World} {C : Nat} {c : Ck} (h : HasC w w3 C c) (nm : Int) (hf : Fits nm) : Calls Try.prog 14 #[.pointer (some ⟨C, 0, Option.none⟩), .int .i64 nm] w3 (fun e w' => e = .returned (.bool (decide (0 ≤ nm ∧ 0 ≤ at_ c.A nm.toNat))) ∧ HasC w w' C ⟨c.now, if 0 ≤ nm ∧ 0 ≤ at_ c.A nm.toNat then c.A.set nm.toNat (-1) else c.A⟩) := by
  have hh := h
  obtain ⟨B, h1, h2, h3⟩ := h
  by_cases hn : 0 ≤ nm ∧ 0 ≤ at_ c.A nm.toNat
  · rw [if_pos hn, decide_eq_true hn]
    obtain ⟨k, rfl⟩ := Int.eq_ofNat_of_zero_le hn.1
    exact (stop_on B C c k w3 h1 (by simpa using hn.2)).mono fun e w' ht => HasC.turn h2 h3 ht
  · rw [if_neg hn, decide_eq_false hn]
    exact (stop_off B C c nm w3 h1 hf (by omega)).mono fun e w' ⟨he, hb⟩ => ⟨he, hh.below hb⟩
end Go.Proofs.Ytiphkgkhfomcaaa.Alarm
