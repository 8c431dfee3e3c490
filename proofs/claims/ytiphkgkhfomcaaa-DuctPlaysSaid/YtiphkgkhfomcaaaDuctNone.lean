/- Chapter 25 (duct): a duct that is none has nothing under way (law 8): the walk. -/
import Derived.Test.YtiphkgkhfomcaaaDuctFly
import Derived.Test.YtiphkgkhfomcaaaRegrown
import Derived.Deep.DeepCutAuto
set_option linter.unusedSimpArgs false
set_option linter.unusedVariables false
attribute [local go_sem ↓] Go.wp_at_zero Go.wp_at_succ
namespace Go.Proofs.Ytiphkgkhfomcaaa.Duct
open Go.BigFrame Go.RowKit Go.OpenShut Go.Shelf Go.Proofs.Ytiphkgkhfomcaaa.Aid Go.Proofs.Ytiphkgkhfomcaaa.DMap Go.Proofs.Ytiphkgkhfomcaaa.Byt
attribute [local go_sem] Oper.semAt_some
theorem none_stops (F : Fence) (n : Nat) (hf : F.fn 60) (hro : F.round = Option.none) (B : Nat) (w0 w : World) (hB : B < w.heap.size) (hc : w.cell? ⟨B, 0, Option.none⟩ = some (.pointer Option.none)) :
    SeqStopsK F n Try.prog 60 #[.pointer (some ⟨B, 0, Option.none⟩)] (fun x : Empty => x.elim) (Below w0.heap.size) (fun xs => xs = []) (fun _ => False) 0 w := fun l J Jx W hW _ _ _ h0 => by
  have hc' := (hW.cell (p := ⟨B, 0, Option.none⟩) hB).trans hc
  refine (none_in F n hf hro l B W hc').mono ?_
  rintro e W' ⟨he, rfl⟩
  exact ⟨he, .inl ⟨[], rfl, h0⟩⟩
theorem blk_own {X Y : World} {g : Nat} {t : TypeId} {cs : Array Value} {row : Option Nat} (h : Blk X g t cs) (hg : X.grownBy Y row) (hr : ∀ r, row = some r → ∃ o : Obj, X.heap[r]? = some o ∧ o.isCells = false) : Blk Y g t cs :=
  (hg.block g h.lt (fun e => by
    obtain ⟨o, ho, hc⟩ := hr g e.symm
    rw [show X.heap[g]? = _ from h] at ho
    cases ho
    cases hc)).trans h
structure NSt (w W : World) : Prop where
  b4 : Blk W w.heap.size 4 #[.bool false]
  bel : Below w.heap.size w W
theorem NSt.below {w W W' : World} (h : NSt w W) (hb : Below W.heap.size W W') : NSt w W' := ⟨h.b4.below hb h.b4.lt, below_then h.bel h.bel.size hb⟩
theorem nst_own {w : World} {B : Nat} (hB : w.heap.size ≤ B) : OwnFrom B (fun (_ : List Empty) W => NSt w W) := fun x X Y row hs hg hr =>
  have hr' : ∀ r, row = some r → ∃ o : Obj, X.heap[r]? = some o ∧ o.isCells = false := fun r e => (hr r e).2
  ⟨blk_own hs.b4 hg hr', hs.bel.trans ⟨hg.os, hg.tape, hg.output, hg.size, fun i hi => hg.block i (Nat.lt_of_lt_of_le hi hs.bel.size) (fun e => by have := (hr i e.symm).1; omega)⟩⟩
set_option maxRecDepth 100000 in
set_option maxHeartbeats 4000000 in
theorem none_walk (b : Value) (n : Int) (w : World) : Calls Try.prog 10 #[b, .int .i64 n] w (Gives w (.bool true)) := by
  refine (callsIn_wide (n := 9)).1 ?_
  refine callsIn_of_wp_marks Try.func10 rfl trivial ?_ rfl
  simp only [Try.ntmps10, List.size_toArray, List.length_cons, List.length_nil, Nat.reduceAdd, Nat.reduceSub, Array.replicate_succ, Array.replicate_zero, List.push_toArray, List.append_toArray, List.nil_append, List.cons_append]
  refine wpIn_wide.2 ?_
  have A0 := Lib.hid (show NSt w (w.alloc (.cells #[.bool false] 4)) from ⟨Blk.new w 4 _, (Below.refl _ w).alloc (Nat.le_refl _) _⟩)
  go_wp2_with fail
  refine (known_calls _).mono ?_
  rintro e w1 ⟨rfl, b1⟩
  have A1 := Lib.hid (A0.out.below b1)
  clear A0 b1
  go_wp2_with fail
  refine (put_nil _ _ _).mono ?_
  rintro e w2 ⟨rfl, rfl⟩
  go_wp2_with fail
  refine (double_nil _ _ _).mono ?_
  rintro e w2 ⟨rfl, rfl⟩
  go_wp2_with fail
  refine (take_nil _ _ _).mono ?_
  rintro e w2 ⟨rfl, rfl⟩
  go_wp2_with fail
  refine (nth_nil _ _).mono ?_
  rintro e w2 ⟨rfl, b2⟩
  have A2 := Lib.hid (A1.out.below b2)
  clear A1 b2
  go_wp2_with fail
  refine (show Calls Try.prog 28 #[.pointer Option.none, .int .i64 n] _ (Gives _ (.tuple #[.agg #[.int .i64 0, .int .i64 0, .int .i64 0, .int .i64 0], .bool false])) from fate_none _ _).mono ?_
  rintro e w3 ⟨rfl, b3⟩
  have A3 := Lib.hid ((A2.out.below ((Below.refl _ w2).alloc (Nat.le_refl _) _)).below b3)
  clear A2 b3
  go_wp2_with fail
  refine (flying_nil _).mono ?_
  rintro e w4 ⟨rfl, rfl⟩
  go_wp2
  obtain ⟨W5, hW5⟩ : ∃ W5, W5 = (w3.alloc (.cells #[.int .i64 0, .int .i64 0, .int .i64 0, .int .i64 0] 65)) := ⟨_, rfl⟩
  have A5 := Lib.hid (show NSt w W5 by rw [hW5]; exact A3.out.below ((Below.refl _ w3).alloc (Nat.le_refl _) _))
  have hs5 : W5.heap.size = w3.heap.size + 1 := by rw [hW5, World.size_alloc]
  rw [← hW5, ← hs5]
  clear hW5 A3 hs5
  have hB := Blk.new W5 57 #[.pointer Option.none]
  have A6 := Lib.hid (A5.out.below ((Below.refl _ W5).alloc (Nat.le_refl _) (.cells #[.pointer Option.none] 57)))
  have hsz := A6.out.bel.size
  refine (wpIn_wide (n := 9)).1 ?_
  refine wpIn_rangeFunc_ownF (α := Empty) rfl (by omega) (gf := 60) (lb := #[.pointer (some ⟨W5.heap.size, 0, Option.none⟩)]) rfl trivial (enters_of Try.func60 (by kernel_rfl) rfl)
    (none_stops Fence.wide 8 trivial rfl W5.heap.size w _ (by simp) (hB.cell 0)) belowK_t (belowK_b hsz) (Below.refl _ _) (fun x => x.elim)
    (fun _ W => NSt w W) (fun _ _ _ => False) (nst_own hsz) (fun _ _ _ _ _ hs _ _ => hs) A6.out (fun x => x.elim) (fun _ x => x.elim) (fun _ _ x => x.elim) ?done ?stop
  case stop =>
    rintro D c pre W _ h
    exact h.elim
  case done =>
    rintro D xs W hD hxs hN hK
    have HN := Lib.hid hN
    have HK := Lib.hid hK
    clear hN hK hxs A6 A5 hB
    go_wp2_with fail
    refine (drop_nil _ _ _).mono ?_
    rintro e w9 ⟨rfl, rfl⟩
    go_wp2_with fail
    refine (len_none _).mono ?_
    rintro e w9 ⟨rfl, rfl⟩
    go_wp2_with fail
    refine (total_none _).mono ?_
    rintro e w9 ⟨rfl, rfl⟩
    go_wp2_with fail
    refine (clone_nil _).mono ?_
    rintro e w9 ⟨rfl, rfl⟩
    go_wp2_with fail
    refine (known_calls _).mono ?_
    rintro e w9 ⟨rfl, b9⟩
    have L9 := Lib.hid (HN.out.below b9)
    have K9 := Lib.hid ((b9.block D (Array.getElem?_eq_some_iff.1 HK.out).1).trans HK.out)
    have f4 := L9.out.b4.frozen
    have d4 := L9.out.b4.cell 0
    simp at d4
    clear b9
    go_wp2
    have hx := L9.out.b4.lt
    have hDD : w.heap.size ≤ D := Nat.le_trans hsz hD
    have Y4 := (L9.out.b4.set_ 0 (.bool true)).eq (cs' := #[.bool true]) (by simp)
    have YB := L9.out.bel.setCell (p := ⟨w.heap.size, 0, Option.none⟩) (by simp only; omega) (.bool true)
    have hne : w.heap.size ≠ D := fun e => by
      have h1 := K9.out
      rw [← e, show w9.heap[w.heap.size]? = _ from L9.out.b4] at h1
      cases h1
    have YK : (w9.setCell ⟨w.heap.size, 0, Option.none⟩ (.bool true)).heap[D]? = some (.deferred (some [])) := (Below.heap_setCell _ _ _ D (by simp only; omega)).trans K9.out
    refine ⟨by simp, .inl ⟨_, _, rfl, run_takeDeferred YK, ?_⟩⟩
    have Z4 := (blk_own Y4 (grownBy_putObj' _ D (.deferred Option.none)) (fun r e => by cases e; exact ⟨_, YK, rfl⟩)).cell 0
    simp at Z4
    exact ⟨_, by simp [results, Try.results10, go_sem, Z4], rfl, YB.trans (belowK_b (w := w) (Nat.le_refl _) _ D _ _ (by omega) YK rfl rfl)⟩
end Go.Proofs.Ytiphkgkhfomcaaa.Duct
