/- Chapter 19 (ledger): an operation with both: Undo and Force; any operation. -/
import Derived.Test.YtaokiocpfpdmkaaLedDoes
import Derived.Deep.RegionHeld3
import Derived.Deep.DrawnRows
import Derived.BigRegion
set_option linter.unusedSimpArgs false
set_option linter.unusedVariables false
attribute [local go_sem ↓] Go.wp_at_zero Go.wp_at_succ
namespace Go.Proofs.Ytaokiocpfpdmkaa.Led
open Go.BigFrame Go.RowKit Go.OpenShut Go.Proofs.Ytaokiocpfpdmkaa.Aid Go.Proofs.Ytaokiocpfpdmkaa.Spans
/-- One turn behind another. -/
theorem does_then {w w3 w4 : World} {g : Nat} {v v3 v4 : Value} {L2 : Led} {r2 : Value} (hk3 : Kept w w3 g v) (ho3 : ∀ k, v3.ownBlock = some k → v.ownBlock = some k ∨ w.heap.size ≤ k) (hl4 : IsLed w4 g v4 L2) (hk4 : Kept w3 w4 g v3) (ho4 : ∀ k, v4.ownBlock = some k → v3.ownBlock = some k ∨ w3.heap.size ≤ k) : Does w g v r2 L2 (.returned r2) w4 :=
  ⟨rfl, v4, hl4, ⟨hk4.os.trans hk3.os, hk4.tape.trans hk3.tape, hk4.output.trans hk3.output, Nat.le_trans hk3.size hk4.size, fun k h1 h2 h3 => (hk4.block k (Nat.lt_of_lt_of_le h1 hk3.size) h2 (fun e => by
    rcases ho3 k e with h4 | h4
    · exact h3 h4
    · omega)).trans (hk3.block k h1 h2 h3)⟩, fun k e => by
    rcases ho4 k e with h4 | h4
    · exact ho3 k h4
    · exact .inr (Nat.le_trans hk3.size h4)⟩
theorem kept_then {w w3 w4 : World} {g : Nat} {v v3 : Value} (hk3 : Kept w w3 g v) (ho3 : ∀ k, v3.ownBlock = some k → v.ownBlock = some k ∨ w.heap.size ≤ k) (hk4 : Kept w3 w4 g v3) : Kept w w4 g v :=
  ⟨hk4.os.trans hk3.os, hk4.tape.trans hk3.tape, hk4.output.trans hk3.output, Nat.le_trans hk3.size hk4.size, fun k h1 h2 h3 => (hk4.block k (Nat.lt_of_lt_of_le h1 hk3.size) h2 (fun e => by
    rcases ho3 k e with h4 | h4
    · exact h3 h4
    · omega)).trans (hk3.block k h1 h2 h3)⟩
set_option maxRecDepth 100000 in
set_option maxHeartbeats 8000000 in
theorem does_undo_no (W w : World) (g : Nat) (v : Value) (A : Option Addr) (n c : Nat) (o : Bool) (cw th : Int) (xs : List Span) (sp : Bool) (k a b : Int) (s : Span) (h : Pair W w g v (.slice A n c) ⟨o, cw, th, xs, sp⟩ ⟨o, cw, th, xs, sp⟩) (k0 : 0 ≤ k) (k1 : k ≤ 255) (hk : k % 6 = 4)
    (hU : lundo ⟨o, cw, th, xs, sp⟩ = ((0, 0, false), ⟨o, cw, th, xs, sp⟩)) (hD : undoR ⟨o, cw, th, xs, sp⟩ false = (false, ⟨o, cw, th, xs, sp⟩)) :
    Calls Try.prog 32 #[.pointer (some ⟨g, 0, Option.none⟩), byVal ⟨o, cw, th, xs, sp⟩ (.slice A n c), opVal k a b s] w (Both W w g v (.slice A n c)) := by
  have ht : k.tmod 6 = k % 6 := Int.tmod_eq_emod_of_nonneg k0
  have HP := Lib.hid h
  have W1 := Lib.hid (fun w1 (hb : Below w.heap.size w w1) => d_undo ⟨o, cw, th, xs, sp⟩ A n c false w1 (h.below hb).row h.st.led.row.1)
  have W2 := Lib.hid (fun w1 (hb : Below w.heap.size w w1) => l_undo g v ⟨o, cw, th, xs, sp⟩ w1 (h.below hb).st.led)
  rw [hD] at W1
  rw [hU] at W2
  simp only at W1 W2
  have hgl : g < w.heap.size := h.st.led.box.lt
  have hvl : ∀ x, w.heap.size ≤ x → v.ownBlock ≠ some x := fun x hx e => by have := h.st.led.row.lt x e; omega
  have HVL := Lib.hid hvl
  clear h hvl hD hU
  unfold byVal opVal
  unfold byVal at W1
  unfold Three at W2
  simp only at W1
  go_enter Try.func32, Try.ntmps32
  go_wp2_with fail
  refine (W1.out _ ((((Below.refl _ w).alloc (Nat.le_refl _) _).alloc (by simp) _).alloc (by simp; omega) _)).mono ?_
  rintro e w1 ⟨A', n', c', rfl, hr1, b1, ho1⟩
  have D1 := Lib.hid ((dbox_new w ⟨o, cw, th, xs, sp⟩ (.slice A n c) k a b s).below b1)
  have HR1 := Lib.hid hr1
  have HO1 := Lib.hid (show ∀ k, (Value.slice A' n' c').ownBlock = some k → (Value.slice A n c).ownBlock = some k ∨ w.heap.size + 1 + 1 + 1 ≤ k from fun k hk => (ho1 k hk).imp id (by simp))
  clear hr1 b1 ho1
  unfold byVal
  go_wp2_with fail
  obtain ⟨w2, hw2⟩ : ∃ w2, w2 = w1.alloc (.cells #[.bool o, .int .i64 cw, .int .i64 th, .slice A' n' c', .bool sp] 63) := ⟨_, rfl⟩
  have b12 : Below w1.heap.size w1 w2 := by rw [hw2]; exact (Below.refl _ w1).alloc (Nat.le_refl _) _
  have X8 : Blk w2 w1.heap.size 63 #[.bool o, .int .i64 cw, .int .i64 th, .slice A' n' c', .bool sp] := by rw [hw2]; exact Blk.new w1 63 _
  have D2 := Lib.hid (D1.out.below b12)
  have HX := Lib.hid X8
  have HB12 := Lib.hid b12
  have q0 := X8.cell 0
  have q1 := X8.cell 1
  have q2 := X8.cell 2
  have q3 := X8.cell 3
  have q4 := X8.cell 4
  have z0 := D2.out.b2.cell 0
  have z1 := D2.out.b2.cell 1
  have z2 := D2.out.b2.cell 2
  have z3 := D2.out.b2.cell 3
  have z4 := D2.out.b2.cell 4
  have o1 := D2.out.b1.cell 0
  have p1 := D2.out.b0.cell 1
  have p2 := D2.out.b0.cell 2
  simp [cells] at q0 q1 q2 q3 q4 z0 z1 z2 z3 z4 o1 p1 p2
  rw [← hw2]
  clear hw2 b12 X8
  generalize hg8 : w1.heap.size = g8 at *
  have hg9 : w.heap.size ≤ g8 := by rw [← hg8]; exact D1.out.bel.size
  have hg10 : g8 < w2.heap.size := HX.out.lt
  have hr2 : w.heap.size + 1 + 1 < w2.heap.size := D2.out.b2.lt
  have fr0 := D2.out.b2.frozen
  have AFT := Lib.hid (fun (w3 : World) (hk : Kept w2 w3 g v) => show (w3.cell? ⟨g8, 0, Option.none⟩ = some (.bool o) ∧ w3.cell? ⟨g8, 1, Option.none⟩ = some (.int .i64 cw) ∧ w3.cell? ⟨g8, 2, Option.none⟩ = some (.int .i64 th) ∧ w3.cell? ⟨g8, 3, Option.none⟩ = some (.slice A' n' c') ∧ w3.cell? ⟨g8, 4, Option.none⟩ = some (.bool sp) ∧ w3.cell? ⟨w.heap.size + 1, 0, Option.none⟩ = some (.int .u8 k) ∧ w3.cell? ⟨w.heap.size, 1, Option.none⟩ = some (.int .i64 cw) ∧ w3.cell? ⟨w.heap.size, 2, Option.none⟩ = some (.int .i64 th) ∧ w3.cell? ⟨w.heap.size + 1 + 1, 0, Option.none⟩ = some (.bool false) ∧ w3.cell? ⟨w.heap.size + 1 + 1, 1, Option.none⟩ = some (.int .i64 0) ∧ w3.cell? ⟨w.heap.size + 1 + 1, 2, Option.none⟩ = some (.int .i64 0) ∧ w3.cell? ⟨w.heap.size + 1 + 1, 3, Option.none⟩ = some (.slice Option.none 0 0) ∧ w3.cell? ⟨w.heap.size + 1 + 1, 4, Option.none⟩ = some (.bool false) ∧ (∀ i, w3.frozen? ⟨w.heap.size + 1 + 1, i, Option.none⟩ = false)) from by
    have s2 : w.heap.size + 1 < w2.heap.size := by omega
    have s0 : w.heap.size < w2.heap.size := by omega
    have v0 := HVL.out w.heap.size (Nat.le_refl _)
    have v1 := HVL.out g8 hg9
    have v2 := HVL.out (w.heap.size + 1) (by omega)
    have v3 := HVL.out (w.heap.size + 1 + 1) (by omega)
    refine ⟨?_, ?_, ?_, ?_, ?_, ?_, ?_, ?_, ?_, ?_, ?_, ?_, ?_, fun i => ?_⟩
    · exact (kept_cell hk 0 hg10 (by omega) v1).trans q0
    · exact (kept_cell hk 1 hg10 (by omega) v1).trans q1
    · exact (kept_cell hk 2 hg10 (by omega) v1).trans q2
    · exact (kept_cell hk 3 hg10 (by omega) v1).trans q3
    · exact (kept_cell hk 4 hg10 (by omega) v1).trans q4
    · exact (kept_cell hk 0 s2 (by omega) v2).trans o1
    · exact (kept_cell hk 1 s0 (by omega) v0).trans p1
    · exact (kept_cell hk 2 s0 (by omega) v0).trans p2
    · exact (kept_cell hk 0 hr2 (by omega) v3).trans z0
    · exact (kept_cell hk 1 hr2 (by omega) v3).trans z1
    · exact (kept_cell hk 2 hr2 (by omega) v3).trans z2
    · exact (kept_cell hk 3 hr2 (by omega) v3).trans z3
    · exact (kept_cell hk 4 hr2 (by omega) v3).trans z4
    · exact (kept_frozen hk i hr2 (by omega) v3).trans (fr0 i))
  have ne1 : ¬ g8 = w.heap.size + 1 + 1 := by rw [← hg8]; have := D1.out.b2.lt; omega
  have ne2 : ¬ w.heap.size + 1 = w.heap.size + 1 + 1 := by omega
  have ne3 : ¬ w.heap.size + 1 + 1 = g8 := fun e => ne1 e.symm
  have ne4 : ¬ w.heap.size + 1 + 1 = w.heap.size + 1 := by omega
  have ne5 : ¬ w.heap.size = w.heap.size + 1 + 1 := by omega
  have ne6 : ¬ w.heap.size + 1 + 1 = w.heap.size := by omega
  have HNE := Lib.hid (And.intro hg8 (And.intro hg9 (And.intro hg10 hr2)))
  clear hg8 hg9 hg10 hr2 hgl q0 q1 q2 q3 q4 z0 z1 z2 z3 z4 o1 p1 p2 fr0
  refine (W2.out _ D2.out.bel).mono ?_
  rintro e w3 ⟨rfl, v3, hl3, hk3, ho3⟩
  obtain ⟨u0, u1, u2, u3, u4, u5, u6, u7, u8, u9, u10, u11, u12, fr3⟩ := AFT.out _ hk3

  have HD3 := Lib.hid (show Does w2 g v (.tuple #[.int .i64 0, .int .i64 0, .bool false]) ⟨o, cw, th, xs, sp⟩ (.returned (.tuple #[.int .i64 0, .int .i64 0, .bool false])) w3 from ⟨rfl, v3, hl3, hk3, ho3⟩)
  clear hl3 hk3 ho3

  all_goals
    go_wp2
    obtain ⟨v9, P9, K9, O9⟩ := both_end HP.out D1.out.bel D1.out.b2.lt HR1.out HO1.out (HNE.out.1 ▸ HB12.out) HD3.out (.bool o) (.int .i64 cw) (.int .i64 th) (.slice A' n' c') (.bool sp)
    refine bodyPost_ret (v := .tuple #[byVal ⟨o, cw, th, xs, sp⟩ (.slice A' n' c'), .bool true]) (by simp [results, Try.results32, go_sem, byVal, u8, u9, u10, u11, u12]; done) rfl ⟨A', n', c', v9, ⟨o, cw, th, xs, sp⟩, rfl, ?_, ?_, O9, fun k hk => (HO1.out k hk).imp id (by omega)⟩
    · first | exact P9 | exact P9.below (below_drew (Below.refl _ _))
    · first | exact K9 | exact kept_drew K9
set_option maxRecDepth 100000 in
set_option maxHeartbeats 8000000 in
theorem does_undo_yes (W w : World) (g : Nat) (v : Value) (A : Option Addr) (n c : Nat) (o : Bool) (cw th : Int) (xs : List Span) (sp : Bool) (k a b : Int) (s : Span) (h : Pair W w g v (.slice A n c) ⟨o, cw, th, xs, sp⟩ ⟨o, cw, th, xs, sp⟩) (k0 : 0 ≤ k) (k1 : k ≤ 255) (hk : k % 6 = 4)
    (hU : lundo ⟨o, cw, th, xs, sp⟩ = ((cw, th, true), ⟨false, cw, th, xs, sp⟩)) (hD : undoR ⟨o, cw, th, xs, sp⟩ false = (true, ⟨false, cw, th, xs, sp⟩)) :
    Calls Try.prog 32 #[.pointer (some ⟨g, 0, Option.none⟩), byVal ⟨o, cw, th, xs, sp⟩ (.slice A n c), opVal k a b s] w (Both W w g v (.slice A n c)) := by
  have ht : k.tmod 6 = k % 6 := Int.tmod_eq_emod_of_nonneg k0
  have HP := Lib.hid h
  have W1 := Lib.hid (fun w1 (hb : Below w.heap.size w w1) => d_undo ⟨o, cw, th, xs, sp⟩ A n c false w1 (h.below hb).row h.st.led.row.1)
  have W2 := Lib.hid (fun w1 (hb : Below w.heap.size w w1) => l_undo g v ⟨o, cw, th, xs, sp⟩ w1 (h.below hb).st.led)
  rw [hD] at W1
  rw [hU] at W2
  simp only at W1 W2
  have hgl : g < w.heap.size := h.st.led.box.lt
  have hvl : ∀ x, w.heap.size ≤ x → v.ownBlock ≠ some x := fun x hx e => by have := h.st.led.row.lt x e; omega
  have HVL := Lib.hid hvl
  clear h hvl hD hU
  unfold byVal opVal
  unfold byVal at W1
  unfold Three at W2
  simp only at W1
  go_enter Try.func32, Try.ntmps32
  go_wp2_with fail
  refine (W1.out _ ((((Below.refl _ w).alloc (Nat.le_refl _) _).alloc (by simp) _).alloc (by simp; omega) _)).mono ?_
  rintro e w1 ⟨A', n', c', rfl, hr1, b1, ho1⟩
  have D1 := Lib.hid ((dbox_new w ⟨o, cw, th, xs, sp⟩ (.slice A n c) k a b s).below b1)
  have HR1 := Lib.hid hr1
  have HO1 := Lib.hid (show ∀ k, (Value.slice A' n' c').ownBlock = some k → (Value.slice A n c).ownBlock = some k ∨ w.heap.size + 1 + 1 + 1 ≤ k from fun k hk => (ho1 k hk).imp id (by simp))
  clear hr1 b1 ho1
  unfold byVal
  go_wp2_with fail
  obtain ⟨w2, hw2⟩ : ∃ w2, w2 = w1.alloc (.cells #[.bool false, .int .i64 cw, .int .i64 th, .slice A' n' c', .bool sp] 63) := ⟨_, rfl⟩
  have b12 : Below w1.heap.size w1 w2 := by rw [hw2]; exact (Below.refl _ w1).alloc (Nat.le_refl _) _
  have X8 : Blk w2 w1.heap.size 63 #[.bool false, .int .i64 cw, .int .i64 th, .slice A' n' c', .bool sp] := by rw [hw2]; exact Blk.new w1 63 _
  have D2 := Lib.hid (D1.out.below b12)
  have HX := Lib.hid X8
  have HB12 := Lib.hid b12
  have q0 := X8.cell 0
  have q1 := X8.cell 1
  have q2 := X8.cell 2
  have q3 := X8.cell 3
  have q4 := X8.cell 4
  have z0 := D2.out.b2.cell 0
  have z1 := D2.out.b2.cell 1
  have z2 := D2.out.b2.cell 2
  have z3 := D2.out.b2.cell 3
  have z4 := D2.out.b2.cell 4
  have o1 := D2.out.b1.cell 0
  have p1 := D2.out.b0.cell 1
  have p2 := D2.out.b0.cell 2
  simp [cells] at q0 q1 q2 q3 q4 z0 z1 z2 z3 z4 o1 p1 p2
  rw [← hw2]
  clear hw2 b12 X8
  generalize hg8 : w1.heap.size = g8 at *
  have hg9 : w.heap.size ≤ g8 := by rw [← hg8]; exact D1.out.bel.size
  have hg10 : g8 < w2.heap.size := HX.out.lt
  have hr2 : w.heap.size + 1 + 1 < w2.heap.size := D2.out.b2.lt
  have fr0 := D2.out.b2.frozen
  have AFT := Lib.hid (fun (w3 : World) (hk : Kept w2 w3 g v) => show (w3.cell? ⟨g8, 0, Option.none⟩ = some (.bool false) ∧ w3.cell? ⟨g8, 1, Option.none⟩ = some (.int .i64 cw) ∧ w3.cell? ⟨g8, 2, Option.none⟩ = some (.int .i64 th) ∧ w3.cell? ⟨g8, 3, Option.none⟩ = some (.slice A' n' c') ∧ w3.cell? ⟨g8, 4, Option.none⟩ = some (.bool sp) ∧ w3.cell? ⟨w.heap.size + 1, 0, Option.none⟩ = some (.int .u8 k) ∧ w3.cell? ⟨w.heap.size, 1, Option.none⟩ = some (.int .i64 cw) ∧ w3.cell? ⟨w.heap.size, 2, Option.none⟩ = some (.int .i64 th) ∧ w3.cell? ⟨w.heap.size + 1 + 1, 0, Option.none⟩ = some (.bool false) ∧ w3.cell? ⟨w.heap.size + 1 + 1, 1, Option.none⟩ = some (.int .i64 0) ∧ w3.cell? ⟨w.heap.size + 1 + 1, 2, Option.none⟩ = some (.int .i64 0) ∧ w3.cell? ⟨w.heap.size + 1 + 1, 3, Option.none⟩ = some (.slice Option.none 0 0) ∧ w3.cell? ⟨w.heap.size + 1 + 1, 4, Option.none⟩ = some (.bool false) ∧ (∀ i, w3.frozen? ⟨w.heap.size + 1 + 1, i, Option.none⟩ = false)) from by
    have s2 : w.heap.size + 1 < w2.heap.size := by omega
    have s0 : w.heap.size < w2.heap.size := by omega
    have v0 := HVL.out w.heap.size (Nat.le_refl _)
    have v1 := HVL.out g8 hg9
    have v2 := HVL.out (w.heap.size + 1) (by omega)
    have v3 := HVL.out (w.heap.size + 1 + 1) (by omega)
    refine ⟨?_, ?_, ?_, ?_, ?_, ?_, ?_, ?_, ?_, ?_, ?_, ?_, ?_, fun i => ?_⟩
    · exact (kept_cell hk 0 hg10 (by omega) v1).trans q0
    · exact (kept_cell hk 1 hg10 (by omega) v1).trans q1
    · exact (kept_cell hk 2 hg10 (by omega) v1).trans q2
    · exact (kept_cell hk 3 hg10 (by omega) v1).trans q3
    · exact (kept_cell hk 4 hg10 (by omega) v1).trans q4
    · exact (kept_cell hk 0 s2 (by omega) v2).trans o1
    · exact (kept_cell hk 1 s0 (by omega) v0).trans p1
    · exact (kept_cell hk 2 s0 (by omega) v0).trans p2
    · exact (kept_cell hk 0 hr2 (by omega) v3).trans z0
    · exact (kept_cell hk 1 hr2 (by omega) v3).trans z1
    · exact (kept_cell hk 2 hr2 (by omega) v3).trans z2
    · exact (kept_cell hk 3 hr2 (by omega) v3).trans z3
    · exact (kept_cell hk 4 hr2 (by omega) v3).trans z4
    · exact (kept_frozen hk i hr2 (by omega) v3).trans (fr0 i))
  have ne1 : ¬ g8 = w.heap.size + 1 + 1 := by rw [← hg8]; have := D1.out.b2.lt; omega
  have ne2 : ¬ w.heap.size + 1 = w.heap.size + 1 + 1 := by omega
  have ne3 : ¬ w.heap.size + 1 + 1 = g8 := fun e => ne1 e.symm
  have ne4 : ¬ w.heap.size + 1 + 1 = w.heap.size + 1 := by omega
  have ne5 : ¬ w.heap.size = w.heap.size + 1 + 1 := by omega
  have ne6 : ¬ w.heap.size + 1 + 1 = w.heap.size := by omega
  have HNE := Lib.hid (And.intro hg8 (And.intro hg9 (And.intro hg10 hr2)))
  clear hg8 hg9 hg10 hr2 hgl q0 q1 q2 q3 q4 z0 z1 z2 z3 z4 o1 p1 p2 fr0
  refine (W2.out _ D2.out.bel).mono ?_
  rintro e w3 ⟨rfl, v3, hl3, hk3, ho3⟩
  obtain ⟨u0, u1, u2, u3, u4, u5, u6, u7, u8, u9, u10, u11, u12, fr3⟩ := AFT.out _ hk3

  have HD3 := Lib.hid (show Does w2 g v (.tuple #[.int .i64 cw, .int .i64 th, .bool true]) ⟨false, cw, th, xs, sp⟩ (.returned (.tuple #[.int .i64 cw, .int .i64 th, .bool true])) w3 from ⟨rfl, v3, hl3, hk3, ho3⟩)
  clear hl3 hk3 ho3
  go_upto_region 18 with fail
  go_region_held3 (fun w' => w'.cell? ⟨g8, 0, Option.none⟩ = some (.bool false) ∧ w'.cell? ⟨g8, 1, Option.none⟩ = some (.int .i64 cw) ∧ w'.cell? ⟨g8, 2, Option.none⟩ = some (.int .i64 th) ∧ w'.cell? ⟨g8, 3, Option.none⟩ = some (.slice A' n' c') ∧ w'.cell? ⟨g8, 4, Option.none⟩ = some (.bool sp) ∧ w'.cell? ⟨w.heap.size, 1, Option.none⟩ = some (.int .i64 cw) ∧ w'.cell? ⟨w.heap.size, 2, Option.none⟩ = some (.int .i64 th)) (go_keep) (fail)
  all_goals
    go_wp2
    obtain ⟨v9, P9, K9, O9⟩ := both_end HP.out D1.out.bel D1.out.b2.lt HR1.out HO1.out (HNE.out.1 ▸ HB12.out) HD3.out (.bool false) (.int .i64 cw) (.int .i64 th) (.slice A' n' c') (.bool sp)
    refine bodyPost_ret (v := .tuple #[byVal ⟨false, cw, th, xs, sp⟩ (.slice A' n' c'), .bool true]) (by simp [results, Try.results32, go_sem, byVal, u8, u9, u10, u11, u12]; done) rfl ⟨A', n', c', v9, ⟨false, cw, th, xs, sp⟩, rfl, ?_, ?_, O9, fun k hk => (HO1.out k hk).imp id (by omega)⟩
    · first | exact P9 | exact P9.below (below_drew (Below.refl _ _))
    · first | exact K9 | exact kept_drew K9
set_option maxRecDepth 100000 in
set_option maxHeartbeats 8000000 in
theorem does_force_at (W w : World) (g : Nat) (v : Value) (A : Option Addr) (n c : Nat) (o : Bool) (cw th : Int) (xs : List Span) (sp : Bool) (k a b : Int) (s : Span) (h : Pair W w g v (.slice A n c) ⟨o, cw, th, xs, sp⟩ ⟨o, cw, th, xs, sp⟩) (k0 : 0 ≤ k) (k1 : k ≤ 255) (hk : k % 6 = 5)
    (hU : lundo ⟨o, cw, th, xs, sp⟩ = ((cw, th, true), ⟨false, cw, th, xs, sp⟩)) (hD : undoR ⟨o, cw, th, xs, sp⟩ true = (true, ⟨false, cw, th, xs, sp⟩)) :
    Calls Try.prog 32 #[.pointer (some ⟨g, 0, Option.none⟩), byVal ⟨o, cw, th, xs, sp⟩ (.slice A n c), opVal k a b s] w (Both W w g v (.slice A n c)) := by
  have ht : k.tmod 6 = k % 6 := Int.tmod_eq_emod_of_nonneg k0
  have HP := Lib.hid h
  have W1 := Lib.hid (fun w1 (hb : Below w.heap.size w w1) => d_undo ⟨o, cw, th, xs, sp⟩ A n c true w1 (h.below hb).row h.st.led.row.1)
  have W2 := Lib.hid (fun w1 (hb : Below w.heap.size w w1) => l_undo g v ⟨o, cw, th, xs, sp⟩ w1 (h.below hb).st.led)
  rw [hD] at W1
  rw [hU] at W2
  simp only at W1 W2
  have hgl : g < w.heap.size := h.st.led.box.lt
  have hvl : ∀ x, w.heap.size ≤ x → v.ownBlock ≠ some x := fun x hx e => by have := h.st.led.row.lt x e; omega
  have HVL := Lib.hid hvl
  clear h hvl hD hU
  unfold byVal opVal
  unfold byVal at W1
  unfold Three at W2
  simp only at W1
  go_enter Try.func32, Try.ntmps32
  go_wp2_with fail
  refine (W1.out _ ((((Below.refl _ w).alloc (Nat.le_refl _) _).alloc (by simp) _).alloc (by simp; omega) _)).mono ?_
  rintro e w1 ⟨A', n', c', rfl, hr1, b1, ho1⟩
  have D1 := Lib.hid ((dbox_new w ⟨o, cw, th, xs, sp⟩ (.slice A n c) k a b s).below b1)
  have HR1 := Lib.hid hr1
  have HO1 := Lib.hid (show ∀ k, (Value.slice A' n' c').ownBlock = some k → (Value.slice A n c).ownBlock = some k ∨ w.heap.size + 1 + 1 + 1 ≤ k from fun k hk => (ho1 k hk).imp id (by simp))
  clear hr1 b1 ho1
  unfold byVal
  go_wp2_with fail
  obtain ⟨w2, hw2⟩ : ∃ w2, w2 = w1.alloc (.cells #[.bool false, .int .i64 cw, .int .i64 th, .slice A' n' c', .bool sp] 63) := ⟨_, rfl⟩
  have b12 : Below w1.heap.size w1 w2 := by rw [hw2]; exact (Below.refl _ w1).alloc (Nat.le_refl _) _
  have X8 : Blk w2 w1.heap.size 63 #[.bool false, .int .i64 cw, .int .i64 th, .slice A' n' c', .bool sp] := by rw [hw2]; exact Blk.new w1 63 _
  have D2 := Lib.hid (D1.out.below b12)
  have HX := Lib.hid X8
  have HB12 := Lib.hid b12
  have q0 := X8.cell 0
  have q1 := X8.cell 1
  have q2 := X8.cell 2
  have q3 := X8.cell 3
  have q4 := X8.cell 4
  have z0 := D2.out.b2.cell 0
  have z1 := D2.out.b2.cell 1
  have z2 := D2.out.b2.cell 2
  have z3 := D2.out.b2.cell 3
  have z4 := D2.out.b2.cell 4
  have o1 := D2.out.b1.cell 0
  have p1 := D2.out.b0.cell 1
  have p2 := D2.out.b0.cell 2
  simp [cells] at q0 q1 q2 q3 q4 z0 z1 z2 z3 z4 o1 p1 p2
  rw [← hw2]
  clear hw2 b12 X8
  generalize hg8 : w1.heap.size = g8 at *
  have hg9 : w.heap.size ≤ g8 := by rw [← hg8]; exact D1.out.bel.size
  have hg10 : g8 < w2.heap.size := HX.out.lt
  have hr2 : w.heap.size + 1 + 1 < w2.heap.size := D2.out.b2.lt
  have fr0 := D2.out.b2.frozen
  have AFT := Lib.hid (fun (w3 : World) (hk : Kept w2 w3 g v) => show (w3.cell? ⟨g8, 0, Option.none⟩ = some (.bool false) ∧ w3.cell? ⟨g8, 1, Option.none⟩ = some (.int .i64 cw) ∧ w3.cell? ⟨g8, 2, Option.none⟩ = some (.int .i64 th) ∧ w3.cell? ⟨g8, 3, Option.none⟩ = some (.slice A' n' c') ∧ w3.cell? ⟨g8, 4, Option.none⟩ = some (.bool sp) ∧ w3.cell? ⟨w.heap.size + 1, 0, Option.none⟩ = some (.int .u8 k) ∧ w3.cell? ⟨w.heap.size, 1, Option.none⟩ = some (.int .i64 cw) ∧ w3.cell? ⟨w.heap.size, 2, Option.none⟩ = some (.int .i64 th) ∧ w3.cell? ⟨w.heap.size + 1 + 1, 0, Option.none⟩ = some (.bool false) ∧ w3.cell? ⟨w.heap.size + 1 + 1, 1, Option.none⟩ = some (.int .i64 0) ∧ w3.cell? ⟨w.heap.size + 1 + 1, 2, Option.none⟩ = some (.int .i64 0) ∧ w3.cell? ⟨w.heap.size + 1 + 1, 3, Option.none⟩ = some (.slice Option.none 0 0) ∧ w3.cell? ⟨w.heap.size + 1 + 1, 4, Option.none⟩ = some (.bool false) ∧ (∀ i, w3.frozen? ⟨w.heap.size + 1 + 1, i, Option.none⟩ = false)) from by
    have s2 : w.heap.size + 1 < w2.heap.size := by omega
    have s0 : w.heap.size < w2.heap.size := by omega
    have v0 := HVL.out w.heap.size (Nat.le_refl _)
    have v1 := HVL.out g8 hg9
    have v2 := HVL.out (w.heap.size + 1) (by omega)
    have v3 := HVL.out (w.heap.size + 1 + 1) (by omega)
    refine ⟨?_, ?_, ?_, ?_, ?_, ?_, ?_, ?_, ?_, ?_, ?_, ?_, ?_, fun i => ?_⟩
    · exact (kept_cell hk 0 hg10 (by omega) v1).trans q0
    · exact (kept_cell hk 1 hg10 (by omega) v1).trans q1
    · exact (kept_cell hk 2 hg10 (by omega) v1).trans q2
    · exact (kept_cell hk 3 hg10 (by omega) v1).trans q3
    · exact (kept_cell hk 4 hg10 (by omega) v1).trans q4
    · exact (kept_cell hk 0 s2 (by omega) v2).trans o1
    · exact (kept_cell hk 1 s0 (by omega) v0).trans p1
    · exact (kept_cell hk 2 s0 (by omega) v0).trans p2
    · exact (kept_cell hk 0 hr2 (by omega) v3).trans z0
    · exact (kept_cell hk 1 hr2 (by omega) v3).trans z1
    · exact (kept_cell hk 2 hr2 (by omega) v3).trans z2
    · exact (kept_cell hk 3 hr2 (by omega) v3).trans z3
    · exact (kept_cell hk 4 hr2 (by omega) v3).trans z4
    · exact (kept_frozen hk i hr2 (by omega) v3).trans (fr0 i))
  have ne1 : ¬ g8 = w.heap.size + 1 + 1 := by rw [← hg8]; have := D1.out.b2.lt; omega
  have ne2 : ¬ w.heap.size + 1 = w.heap.size + 1 + 1 := by omega
  have ne3 : ¬ w.heap.size + 1 + 1 = g8 := fun e => ne1 e.symm
  have ne4 : ¬ w.heap.size + 1 + 1 = w.heap.size + 1 := by omega
  have ne5 : ¬ w.heap.size = w.heap.size + 1 + 1 := by omega
  have ne6 : ¬ w.heap.size + 1 + 1 = w.heap.size := by omega
  have HNE := Lib.hid (And.intro hg8 (And.intro hg9 (And.intro hg10 hr2)))
  clear hg8 hg9 hg10 hr2 hgl q0 q1 q2 q3 q4 z0 z1 z2 z3 z4 o1 p1 p2 fr0
  refine (W2.out _ D2.out.bel).mono ?_
  rintro e w3 ⟨rfl, v3, hl3, hk3, ho3⟩
  obtain ⟨u0, u1, u2, u3, u4, u5, u6, u7, u8, u9, u10, u11, u12, fr3⟩ := AFT.out _ hk3

  have HD3 := Lib.hid (show Does w2 g v (.tuple #[.int .i64 cw, .int .i64 th, .bool true]) ⟨false, cw, th, xs, sp⟩ (.returned (.tuple #[.int .i64 cw, .int .i64 th, .bool true])) w3 from ⟨rfl, v3, hl3, hk3, ho3⟩)
  clear hl3 hk3 ho3
  go_upto_region 18 with fail
  go_region_held3 (fun w' => w'.cell? ⟨g8, 0, Option.none⟩ = some (.bool false) ∧ w'.cell? ⟨g8, 1, Option.none⟩ = some (.int .i64 cw) ∧ w'.cell? ⟨g8, 2, Option.none⟩ = some (.int .i64 th) ∧ w'.cell? ⟨g8, 3, Option.none⟩ = some (.slice A' n' c') ∧ w'.cell? ⟨g8, 4, Option.none⟩ = some (.bool sp) ∧ w'.cell? ⟨w.heap.size, 1, Option.none⟩ = some (.int .i64 cw) ∧ w'.cell? ⟨w.heap.size, 2, Option.none⟩ = some (.int .i64 th)) (go_keep) (fail)
  all_goals
    go_wp2
    obtain ⟨v9, P9, K9, O9⟩ := both_end HP.out D1.out.bel D1.out.b2.lt HR1.out HO1.out (HNE.out.1 ▸ HB12.out) HD3.out (.bool false) (.int .i64 cw) (.int .i64 th) (.slice A' n' c') (.bool sp)
    refine bodyPost_ret (v := .tuple #[byVal ⟨false, cw, th, xs, sp⟩ (.slice A' n' c'), .bool true]) (by simp [results, Try.results32, go_sem, byVal, u8, u9, u10, u11, u12]; done) rfl ⟨A', n', c', v9, ⟨false, cw, th, xs, sp⟩, rfl, ?_, ?_, O9, fun k hk => (HO1.out k hk).imp id (by omega)⟩
    · first | exact P9 | exact P9.below (below_drew (Below.refl _ _))
    · first | exact K9 | exact kept_drew K9
set_option maxRecDepth 100000 in
set_option maxHeartbeats 8000000 in
theorem does_force_no (W w : World) (g : Nat) (v : Value) (A : Option Addr) (n c : Nat) (o : Bool) (cw th : Int) (xs : List Span) (sp : Bool) (k a b : Int) (s : Span) (h : Pair W w g v (.slice A n c) ⟨o, cw, th, xs, sp⟩ ⟨o, cw, th, xs, sp⟩) (k0 : 0 ≤ k) (k1 : k ≤ 255) (hk : k % 6 = 5)
    (hU : lundo ⟨o, cw, th, xs, sp⟩ = ((0, 0, false), ⟨o, cw, th, xs, sp⟩)) (hF : lforce ⟨o, cw, th, xs, sp⟩ = ((0, 0, false), ⟨o, cw, th, xs, sp⟩)) (hD : undoR ⟨o, cw, th, xs, sp⟩ true = (false, ⟨o, cw, th, xs, sp⟩)) :
    Calls Try.prog 32 #[.pointer (some ⟨g, 0, Option.none⟩), byVal ⟨o, cw, th, xs, sp⟩ (.slice A n c), opVal k a b s] w (Both W w g v (.slice A n c)) := by
  have ht : k.tmod 6 = k % 6 := Int.tmod_eq_emod_of_nonneg k0
  have HP := Lib.hid h
  have W1 := Lib.hid (fun w1 (hb : Below w.heap.size w w1) => d_undo ⟨o, cw, th, xs, sp⟩ A n c true w1 (h.below hb).row h.st.led.row.1)
  have W2 := Lib.hid (fun w1 (hb : Below w.heap.size w w1) => l_undo g v ⟨o, cw, th, xs, sp⟩ w1 (h.below hb).st.led)
  rw [hD] at W1
  rw [hU] at W2
  have W3 := Lib.hid (fun w1 v1 (hl : IsLed w1 g v1 ⟨o, cw, th, xs, sp⟩) => l_force g v1 ⟨o, cw, th, xs, sp⟩ w1 hl)
  rw [hF] at W3
  simp only at W3
  unfold Three at W3
  simp only at W1 W2
  have hgl : g < w.heap.size := h.st.led.box.lt
  have hvl : ∀ x, w.heap.size ≤ x → v.ownBlock ≠ some x := fun x hx e => by have := h.st.led.row.lt x e; omega
  have HVL := Lib.hid hvl
  clear h hvl hD hU hF
  unfold byVal opVal
  unfold byVal at W1
  unfold Three at W2
  simp only at W1
  go_enter Try.func32, Try.ntmps32
  go_wp2_with fail
  refine (W1.out _ ((((Below.refl _ w).alloc (Nat.le_refl _) _).alloc (by simp) _).alloc (by simp; omega) _)).mono ?_
  rintro e w1 ⟨A', n', c', rfl, hr1, b1, ho1⟩
  have D1 := Lib.hid ((dbox_new w ⟨o, cw, th, xs, sp⟩ (.slice A n c) k a b s).below b1)
  have HR1 := Lib.hid hr1
  have HO1 := Lib.hid (show ∀ k, (Value.slice A' n' c').ownBlock = some k → (Value.slice A n c).ownBlock = some k ∨ w.heap.size + 1 + 1 + 1 ≤ k from fun k hk => (ho1 k hk).imp id (by simp))
  clear hr1 b1 ho1
  unfold byVal
  go_wp2_with fail
  obtain ⟨w2, hw2⟩ : ∃ w2, w2 = w1.alloc (.cells #[.bool o, .int .i64 cw, .int .i64 th, .slice A' n' c', .bool sp] 63) := ⟨_, rfl⟩
  have b12 : Below w1.heap.size w1 w2 := by rw [hw2]; exact (Below.refl _ w1).alloc (Nat.le_refl _) _
  have X8 : Blk w2 w1.heap.size 63 #[.bool o, .int .i64 cw, .int .i64 th, .slice A' n' c', .bool sp] := by rw [hw2]; exact Blk.new w1 63 _
  have D2 := Lib.hid (D1.out.below b12)
  have HX := Lib.hid X8
  have HB12 := Lib.hid b12
  have q0 := X8.cell 0
  have q1 := X8.cell 1
  have q2 := X8.cell 2
  have q3 := X8.cell 3
  have q4 := X8.cell 4
  have z0 := D2.out.b2.cell 0
  have z1 := D2.out.b2.cell 1
  have z2 := D2.out.b2.cell 2
  have z3 := D2.out.b2.cell 3
  have z4 := D2.out.b2.cell 4
  have o1 := D2.out.b1.cell 0
  have p1 := D2.out.b0.cell 1
  have p2 := D2.out.b0.cell 2
  simp [cells] at q0 q1 q2 q3 q4 z0 z1 z2 z3 z4 o1 p1 p2
  rw [← hw2]
  clear hw2 b12 X8
  generalize hg8 : w1.heap.size = g8 at *
  have hg9 : w.heap.size ≤ g8 := by rw [← hg8]; exact D1.out.bel.size
  have hg10 : g8 < w2.heap.size := HX.out.lt
  have hr2 : w.heap.size + 1 + 1 < w2.heap.size := D2.out.b2.lt
  have fr0 := D2.out.b2.frozen
  have AFT := Lib.hid (fun (w3 : World) (hk : Kept w2 w3 g v) => show (w3.cell? ⟨g8, 0, Option.none⟩ = some (.bool o) ∧ w3.cell? ⟨g8, 1, Option.none⟩ = some (.int .i64 cw) ∧ w3.cell? ⟨g8, 2, Option.none⟩ = some (.int .i64 th) ∧ w3.cell? ⟨g8, 3, Option.none⟩ = some (.slice A' n' c') ∧ w3.cell? ⟨g8, 4, Option.none⟩ = some (.bool sp) ∧ w3.cell? ⟨w.heap.size + 1, 0, Option.none⟩ = some (.int .u8 k) ∧ w3.cell? ⟨w.heap.size, 1, Option.none⟩ = some (.int .i64 cw) ∧ w3.cell? ⟨w.heap.size, 2, Option.none⟩ = some (.int .i64 th) ∧ w3.cell? ⟨w.heap.size + 1 + 1, 0, Option.none⟩ = some (.bool false) ∧ w3.cell? ⟨w.heap.size + 1 + 1, 1, Option.none⟩ = some (.int .i64 0) ∧ w3.cell? ⟨w.heap.size + 1 + 1, 2, Option.none⟩ = some (.int .i64 0) ∧ w3.cell? ⟨w.heap.size + 1 + 1, 3, Option.none⟩ = some (.slice Option.none 0 0) ∧ w3.cell? ⟨w.heap.size + 1 + 1, 4, Option.none⟩ = some (.bool false) ∧ (∀ i, w3.frozen? ⟨w.heap.size + 1 + 1, i, Option.none⟩ = false)) from by
    have s2 : w.heap.size + 1 < w2.heap.size := by omega
    have s0 : w.heap.size < w2.heap.size := by omega
    have v0 := HVL.out w.heap.size (Nat.le_refl _)
    have v1 := HVL.out g8 hg9
    have v2 := HVL.out (w.heap.size + 1) (by omega)
    have v3 := HVL.out (w.heap.size + 1 + 1) (by omega)
    refine ⟨?_, ?_, ?_, ?_, ?_, ?_, ?_, ?_, ?_, ?_, ?_, ?_, ?_, fun i => ?_⟩
    · exact (kept_cell hk 0 hg10 (by omega) v1).trans q0
    · exact (kept_cell hk 1 hg10 (by omega) v1).trans q1
    · exact (kept_cell hk 2 hg10 (by omega) v1).trans q2
    · exact (kept_cell hk 3 hg10 (by omega) v1).trans q3
    · exact (kept_cell hk 4 hg10 (by omega) v1).trans q4
    · exact (kept_cell hk 0 s2 (by omega) v2).trans o1
    · exact (kept_cell hk 1 s0 (by omega) v0).trans p1
    · exact (kept_cell hk 2 s0 (by omega) v0).trans p2
    · exact (kept_cell hk 0 hr2 (by omega) v3).trans z0
    · exact (kept_cell hk 1 hr2 (by omega) v3).trans z1
    · exact (kept_cell hk 2 hr2 (by omega) v3).trans z2
    · exact (kept_cell hk 3 hr2 (by omega) v3).trans z3
    · exact (kept_cell hk 4 hr2 (by omega) v3).trans z4
    · exact (kept_frozen hk i hr2 (by omega) v3).trans (fr0 i))
  have ne1 : ¬ g8 = w.heap.size + 1 + 1 := by rw [← hg8]; have := D1.out.b2.lt; omega
  have ne2 : ¬ w.heap.size + 1 = w.heap.size + 1 + 1 := by omega
  have ne3 : ¬ w.heap.size + 1 + 1 = g8 := fun e => ne1 e.symm
  have ne4 : ¬ w.heap.size + 1 + 1 = w.heap.size + 1 := by omega
  have ne5 : ¬ w.heap.size = w.heap.size + 1 + 1 := by omega
  have ne6 : ¬ w.heap.size + 1 + 1 = w.heap.size := by omega
  have HNE := Lib.hid (And.intro hg8 (And.intro hg9 (And.intro hg10 hr2)))
  clear hg8 hg9 hg10 hr2 hgl q0 q1 q2 q3 q4 z0 z1 z2 z3 z4 o1 p1 p2 fr0
  refine (W2.out _ D2.out.bel).mono ?_
  rintro e w3 ⟨rfl, v3, hl3, hk3, ho3⟩
  obtain ⟨u0, u1, u2, u3, u4, u5, u6, u7, u8, u9, u10, u11, u12, fr3⟩ := AFT.out _ hk3
  have HL3 := Lib.hid hl3
  have HK3 := Lib.hid hk3
  have HO3 := Lib.hid ho3
  clear hl3 hk3 ho3 u0 u1 u2 u3 u4 u6 u7 u8 u9 u10 u11 u12 fr3
  go_wp2_with fail
  refine (W3.out _ _ HL3.out).mono ?_
  rintro e w4 ⟨rfl, v4, hl4, hk4, ho4⟩
  obtain ⟨u0, u1, u2, u3, u4, u5, u6, u7, u8, u9, u10, u11, u12, fr3⟩ := AFT.out _ (kept_then HK3.out HO3.out hk4)
  have HD3 := Lib.hid (show Does w2 g v (.tuple #[.int .i64 0, .int .i64 0, .bool false]) ⟨o, cw, th, xs, sp⟩ (.returned (.tuple #[.int .i64 0, .int .i64 0, .bool false])) w4 from does_then HK3.out HO3.out hl4 hk4 ho4)
  clear hl4 hk4 ho4

  all_goals
    go_wp2
    obtain ⟨v9, P9, K9, O9⟩ := both_end HP.out D1.out.bel D1.out.b2.lt HR1.out HO1.out (HNE.out.1 ▸ HB12.out) HD3.out (.bool o) (.int .i64 cw) (.int .i64 th) (.slice A' n' c') (.bool sp)
    refine bodyPost_ret (v := .tuple #[byVal ⟨o, cw, th, xs, sp⟩ (.slice A' n' c'), .bool true]) (by simp [results, Try.results32, go_sem, byVal, u8, u9, u10, u11, u12]; done) rfl ⟨A', n', c', v9, ⟨o, cw, th, xs, sp⟩, rfl, ?_, ?_, O9, fun k hk => (HO1.out k hk).imp id (by omega)⟩
    · first | exact P9 | exact P9.below (below_drew (Below.refl _ _))
    · first | exact K9 | exact kept_drew K9
set_option maxRecDepth 100000 in
set_option maxHeartbeats 8000000 in
theorem does_force_yes (W w : World) (g : Nat) (v : Value) (A : Option Addr) (n c : Nat) (o : Bool) (cw th : Int) (xs : List Span) (sp : Bool) (k a b : Int) (s : Span) (h : Pair W w g v (.slice A n c) ⟨o, cw, th, xs, sp⟩ ⟨o, cw, th, xs, sp⟩) (k0 : 0 ≤ k) (k1 : k ≤ 255) (hk : k % 6 = 5)
    (hU : lundo ⟨o, cw, th, xs, sp⟩ = ((0, 0, false), ⟨o, cw, th, xs, sp⟩)) (hF : lforce ⟨o, cw, th, xs, sp⟩ = ((cw, th, true), ⟨false, cw, th, xs, sp⟩)) (hD : undoR ⟨o, cw, th, xs, sp⟩ true = (true, ⟨false, cw, th, xs, sp⟩)) :
    Calls Try.prog 32 #[.pointer (some ⟨g, 0, Option.none⟩), byVal ⟨o, cw, th, xs, sp⟩ (.slice A n c), opVal k a b s] w (Both W w g v (.slice A n c)) := by
  have ht : k.tmod 6 = k % 6 := Int.tmod_eq_emod_of_nonneg k0
  have HP := Lib.hid h
  have W1 := Lib.hid (fun w1 (hb : Below w.heap.size w w1) => d_undo ⟨o, cw, th, xs, sp⟩ A n c true w1 (h.below hb).row h.st.led.row.1)
  have W2 := Lib.hid (fun w1 (hb : Below w.heap.size w w1) => l_undo g v ⟨o, cw, th, xs, sp⟩ w1 (h.below hb).st.led)
  rw [hD] at W1
  rw [hU] at W2
  have W3 := Lib.hid (fun w1 v1 (hl : IsLed w1 g v1 ⟨o, cw, th, xs, sp⟩) => l_force g v1 ⟨o, cw, th, xs, sp⟩ w1 hl)
  rw [hF] at W3
  simp only at W3
  unfold Three at W3
  simp only at W1 W2
  have hgl : g < w.heap.size := h.st.led.box.lt
  have hvl : ∀ x, w.heap.size ≤ x → v.ownBlock ≠ some x := fun x hx e => by have := h.st.led.row.lt x e; omega
  have HVL := Lib.hid hvl
  clear h hvl hD hU hF
  unfold byVal opVal
  unfold byVal at W1
  unfold Three at W2
  simp only at W1
  go_enter Try.func32, Try.ntmps32
  go_wp2_with fail
  refine (W1.out _ ((((Below.refl _ w).alloc (Nat.le_refl _) _).alloc (by simp) _).alloc (by simp; omega) _)).mono ?_
  rintro e w1 ⟨A', n', c', rfl, hr1, b1, ho1⟩
  have D1 := Lib.hid ((dbox_new w ⟨o, cw, th, xs, sp⟩ (.slice A n c) k a b s).below b1)
  have HR1 := Lib.hid hr1
  have HO1 := Lib.hid (show ∀ k, (Value.slice A' n' c').ownBlock = some k → (Value.slice A n c).ownBlock = some k ∨ w.heap.size + 1 + 1 + 1 ≤ k from fun k hk => (ho1 k hk).imp id (by simp))
  clear hr1 b1 ho1
  unfold byVal
  go_wp2_with fail
  obtain ⟨w2, hw2⟩ : ∃ w2, w2 = w1.alloc (.cells #[.bool false, .int .i64 cw, .int .i64 th, .slice A' n' c', .bool sp] 63) := ⟨_, rfl⟩
  have b12 : Below w1.heap.size w1 w2 := by rw [hw2]; exact (Below.refl _ w1).alloc (Nat.le_refl _) _
  have X8 : Blk w2 w1.heap.size 63 #[.bool false, .int .i64 cw, .int .i64 th, .slice A' n' c', .bool sp] := by rw [hw2]; exact Blk.new w1 63 _
  have D2 := Lib.hid (D1.out.below b12)
  have HX := Lib.hid X8
  have HB12 := Lib.hid b12
  have q0 := X8.cell 0
  have q1 := X8.cell 1
  have q2 := X8.cell 2
  have q3 := X8.cell 3
  have q4 := X8.cell 4
  have z0 := D2.out.b2.cell 0
  have z1 := D2.out.b2.cell 1
  have z2 := D2.out.b2.cell 2
  have z3 := D2.out.b2.cell 3
  have z4 := D2.out.b2.cell 4
  have o1 := D2.out.b1.cell 0
  have p1 := D2.out.b0.cell 1
  have p2 := D2.out.b0.cell 2
  simp [cells] at q0 q1 q2 q3 q4 z0 z1 z2 z3 z4 o1 p1 p2
  rw [← hw2]
  clear hw2 b12 X8
  generalize hg8 : w1.heap.size = g8 at *
  have hg9 : w.heap.size ≤ g8 := by rw [← hg8]; exact D1.out.bel.size
  have hg10 : g8 < w2.heap.size := HX.out.lt
  have hr2 : w.heap.size + 1 + 1 < w2.heap.size := D2.out.b2.lt
  have fr0 := D2.out.b2.frozen
  have AFT := Lib.hid (fun (w3 : World) (hk : Kept w2 w3 g v) => show (w3.cell? ⟨g8, 0, Option.none⟩ = some (.bool false) ∧ w3.cell? ⟨g8, 1, Option.none⟩ = some (.int .i64 cw) ∧ w3.cell? ⟨g8, 2, Option.none⟩ = some (.int .i64 th) ∧ w3.cell? ⟨g8, 3, Option.none⟩ = some (.slice A' n' c') ∧ w3.cell? ⟨g8, 4, Option.none⟩ = some (.bool sp) ∧ w3.cell? ⟨w.heap.size + 1, 0, Option.none⟩ = some (.int .u8 k) ∧ w3.cell? ⟨w.heap.size, 1, Option.none⟩ = some (.int .i64 cw) ∧ w3.cell? ⟨w.heap.size, 2, Option.none⟩ = some (.int .i64 th) ∧ w3.cell? ⟨w.heap.size + 1 + 1, 0, Option.none⟩ = some (.bool false) ∧ w3.cell? ⟨w.heap.size + 1 + 1, 1, Option.none⟩ = some (.int .i64 0) ∧ w3.cell? ⟨w.heap.size + 1 + 1, 2, Option.none⟩ = some (.int .i64 0) ∧ w3.cell? ⟨w.heap.size + 1 + 1, 3, Option.none⟩ = some (.slice Option.none 0 0) ∧ w3.cell? ⟨w.heap.size + 1 + 1, 4, Option.none⟩ = some (.bool false) ∧ (∀ i, w3.frozen? ⟨w.heap.size + 1 + 1, i, Option.none⟩ = false)) from by
    have s2 : w.heap.size + 1 < w2.heap.size := by omega
    have s0 : w.heap.size < w2.heap.size := by omega
    have v0 := HVL.out w.heap.size (Nat.le_refl _)
    have v1 := HVL.out g8 hg9
    have v2 := HVL.out (w.heap.size + 1) (by omega)
    have v3 := HVL.out (w.heap.size + 1 + 1) (by omega)
    refine ⟨?_, ?_, ?_, ?_, ?_, ?_, ?_, ?_, ?_, ?_, ?_, ?_, ?_, fun i => ?_⟩
    · exact (kept_cell hk 0 hg10 (by omega) v1).trans q0
    · exact (kept_cell hk 1 hg10 (by omega) v1).trans q1
    · exact (kept_cell hk 2 hg10 (by omega) v1).trans q2
    · exact (kept_cell hk 3 hg10 (by omega) v1).trans q3
    · exact (kept_cell hk 4 hg10 (by omega) v1).trans q4
    · exact (kept_cell hk 0 s2 (by omega) v2).trans o1
    · exact (kept_cell hk 1 s0 (by omega) v0).trans p1
    · exact (kept_cell hk 2 s0 (by omega) v0).trans p2
    · exact (kept_cell hk 0 hr2 (by omega) v3).trans z0
    · exact (kept_cell hk 1 hr2 (by omega) v3).trans z1
    · exact (kept_cell hk 2 hr2 (by omega) v3).trans z2
    · exact (kept_cell hk 3 hr2 (by omega) v3).trans z3
    · exact (kept_cell hk 4 hr2 (by omega) v3).trans z4
    · exact (kept_frozen hk i hr2 (by omega) v3).trans (fr0 i))
  have ne1 : ¬ g8 = w.heap.size + 1 + 1 := by rw [← hg8]; have := D1.out.b2.lt; omega
  have ne2 : ¬ w.heap.size + 1 = w.heap.size + 1 + 1 := by omega
  have ne3 : ¬ w.heap.size + 1 + 1 = g8 := fun e => ne1 e.symm
  have ne4 : ¬ w.heap.size + 1 + 1 = w.heap.size + 1 := by omega
  have ne5 : ¬ w.heap.size = w.heap.size + 1 + 1 := by omega
  have ne6 : ¬ w.heap.size + 1 + 1 = w.heap.size := by omega
  have HNE := Lib.hid (And.intro hg8 (And.intro hg9 (And.intro hg10 hr2)))
  clear hg8 hg9 hg10 hr2 hgl q0 q1 q2 q3 q4 z0 z1 z2 z3 z4 o1 p1 p2 fr0
  refine (W2.out _ D2.out.bel).mono ?_
  rintro e w3 ⟨rfl, v3, hl3, hk3, ho3⟩
  obtain ⟨u0, u1, u2, u3, u4, u5, u6, u7, u8, u9, u10, u11, u12, fr3⟩ := AFT.out _ hk3
  have HL3 := Lib.hid hl3
  have HK3 := Lib.hid hk3
  have HO3 := Lib.hid ho3
  clear hl3 hk3 ho3 u0 u1 u2 u3 u4 u6 u7 u8 u9 u10 u11 u12 fr3
  go_wp2_with fail
  refine (W3.out _ _ HL3.out).mono ?_
  rintro e w4 ⟨rfl, v4, hl4, hk4, ho4⟩
  obtain ⟨u0, u1, u2, u3, u4, u5, u6, u7, u8, u9, u10, u11, u12, fr3⟩ := AFT.out _ (kept_then HK3.out HO3.out hk4)
  have HD3 := Lib.hid (show Does w2 g v (.tuple #[.int .i64 cw, .int .i64 th, .bool true]) ⟨false, cw, th, xs, sp⟩ (.returned (.tuple #[.int .i64 cw, .int .i64 th, .bool true])) w4 from does_then HK3.out HO3.out hl4 hk4 ho4)
  clear hl4 hk4 ho4
  go_upto_region 18 with fail
  go_region_held3 (fun w' => w'.cell? ⟨g8, 0, Option.none⟩ = some (.bool false) ∧ w'.cell? ⟨g8, 1, Option.none⟩ = some (.int .i64 cw) ∧ w'.cell? ⟨g8, 2, Option.none⟩ = some (.int .i64 th) ∧ w'.cell? ⟨g8, 3, Option.none⟩ = some (.slice A' n' c') ∧ w'.cell? ⟨g8, 4, Option.none⟩ = some (.bool sp) ∧ w'.cell? ⟨w.heap.size, 1, Option.none⟩ = some (.int .i64 cw) ∧ w'.cell? ⟨w.heap.size, 2, Option.none⟩ = some (.int .i64 th)) (go_keep) (fail)
  all_goals
    go_wp2
    obtain ⟨v9, P9, K9, O9⟩ := both_end HP.out D1.out.bel D1.out.b2.lt HR1.out HO1.out (HNE.out.1 ▸ HB12.out) HD3.out (.bool false) (.int .i64 cw) (.int .i64 th) (.slice A' n' c') (.bool sp)
    refine bodyPost_ret (v := .tuple #[byVal ⟨false, cw, th, xs, sp⟩ (.slice A' n' c'), .bool true]) (by simp [results, Try.results32, go_sem, byVal, u8, u9, u10, u11, u12]; done) rfl ⟨A', n', c', v9, ⟨false, cw, th, xs, sp⟩, rfl, ?_, ?_, O9, fun k hk => (HO1.out k hk).imp id (by omega)⟩
    · first | exact P9 | exact P9.below (below_drew (Below.refl _ _))
    · first | exact K9 | exact kept_drew K9
theorem does_calls (W w : World) (g : Nat) (v : Value) (A : Option Addr) (n c : Nat) (L : Led) (k a b : Int) (s : Span) (h : Pair W w g v (.slice A n c) L L) (k0 : 0 ≤ k) (k1 : k ≤ 255) :
    Calls Try.prog 32 #[.pointer (some ⟨g, 0, Option.none⟩), byVal L (.slice A n c), opVal k a b s] w (Both W w g v (.slice A n c)) := by
  have hk : k % 6 = 0 ∨ k % 6 = 1 ∨ k % 6 = 2 ∨ k % 6 = 3 ∨ k % 6 = 4 ∨ k % 6 = 5 := by omega
  rcases hk with hk | hk | hk | hk | hk | hk
  · exact does_cut W w g v A n c L k a b s h k0 k1 hk
  · exact does_again1 W w g v A n c L k a b s h k0 k1 hk
  · exact does_again2 W w g v A n c L k a b s h k0 k1 hk
  · exact does_dup W w g v A n c L k a b s h k0 k1 hk
  · obtain ⟨o, cw, th, xs, sp⟩ := L
    by_cases hc : (o && (xs.isEmpty && !sp)) = true
    · have ho : o = true := by cases o <;> simp_all
      subst ho
      exact does_undo_yes W w g v A n c true cw th xs sp k a b s h k0 k1 hk (by unfold lundo; rw [if_pos (by simpa using hc)]) (by unfold undoR; rw [if_pos (by simpa using hc)])
    · exact does_undo_no W w g v A n c o cw th xs sp k a b s h k0 k1 hk (by unfold lundo; rw [if_neg (by simpa using hc)]) (by unfold undoR; rw [if_neg (by simpa using hc)])
  · obtain ⟨o, cw, th, xs, sp⟩ := L
    by_cases hc : (o && (xs.isEmpty && !sp)) = true
    · have ho : o = true := by cases o <;> simp_all
      subst ho
      exact does_force_at W w g v A n c true cw th xs sp k a b s h k0 k1 hk (by unfold lundo; rw [if_pos (by simpa using hc)]) (by unfold undoR; rw [if_pos (by simp)])
    · cases o
      · exact does_force_no W w g v A n c false cw th xs sp k a b s h k0 k1 hk (by unfold lundo; rw [if_neg hc]) (by unfold lforce; simp) (by unfold undoR; simp)
      · exact does_force_yes W w g v A n c true cw th xs sp k a b s h k0 k1 hk (by unfold lundo; rw [if_neg hc]) (by unfold lforce; simp) (by unfold undoR; simp)
end Go.Proofs.Ytaokiocpfpdmkaa.Led
