/- SpanCuts: a span's pieces, one behind the other, are the span. -/
import Derived.Test.YtfbjmaajdblbfaaCuts
import Derived.Test.YtfbjmaajdblbfaaRegrown
import Derived.Deep.DeepCutAuto
import Derived.Deep.CutRange
import Derived.Lib.QuietBelow
set_option linter.unusedSimpArgs false
set_option linter.unusedVariables false
attribute [local go_sem ↓] Go.wp_at_zero Go.wp_at_succ
namespace Go.Proofs.Ytfbjmaajdblbfaa.Spans
open Go.BigFrame Go.RowKit Go.Shelf Go.Proofs.Ytfbjmaajdblbfaa.Aid
attribute [local go_sem] Oper.semAt_some
/-- The law's boxes: from H on the arguments and the result, g7 the document's span, g8 to g10 what the rounds write. -/
structure LSt (w W : World) (H g7 g8 : Nat) (s p : Span) (z m k e : Int) (r f : Bool) : Prop where
  b3 : Blk W H 23 #[.int .i64 s.lo, .int .i64 s.hi]
  b4 : Blk W (H + 1) 3 #[.int .i64 z]
  b5 : Blk W (H + 1 + 1) 3 #[.int .i64 m]
  b6 : Blk W (H + 1 + 1 + 1) 4 #[.bool r]
  b7 : Blk W g7 23 #[.int .i64 p.lo, .int .i64 p.hi]
  b8 : Blk W g8 3 #[.int .i64 k]
  b9 : Blk W (g8 + 1) 3 #[.int .i64 e]
  b10 : Blk W (g8 + 1 + 1) 4 #[.bool f]
  bel : Below w.heap.size w W
theorem LSt.below {w W W' : World} {H g7 g8 : Nat} {s p : Span} {z m k e : Int} {r f : Bool} (h : LSt w W H g7 g8 s p z m k e r f) (hb : Below W.heap.size W W') : LSt w W' H g7 g8 s p z m k e r f :=
  ⟨h.b3.below hb h.b3.lt, h.b4.below hb h.b4.lt, h.b5.below hb h.b5.lt, h.b6.below hb h.b6.lt, h.b7.below hb h.b7.lt, h.b8.below hb h.b8.lt, h.b9.below hb h.b9.lt, h.b10.below hb h.b10.lt, below_then h.bel h.bel.size hb⟩
theorem lst_own {β : Type} {w : World} {B H g7 g8 : Nat} {s p : Span} {z m : Int} {k e : β → Int} {r f : β → Bool} (hB : w.heap.size ≤ B) (N : Nat) : OwnFrom B (fun x W => N ≤ W.heap.size ∧ LSt w W H g7 g8 s p z m (k x) (e x) (r x) (f x)) := fun x X Y row hs hg hr =>
  have hr' : ∀ r, row = some r → ∃ o : Obj, X.heap[r]? = some o ∧ o.isCells = false := fun r e => (hr r e).2
  ⟨Nat.le_trans hs.1 hg.size, blk_own hs.2.b3 hg hr', blk_own hs.2.b4 hg hr', blk_own hs.2.b5 hg hr', blk_own hs.2.b6 hg hr', blk_own hs.2.b7 hg hr', blk_own hs.2.b8 hg hr', blk_own hs.2.b9 hg hr', blk_own hs.2.b10 hg hr',
   hs.2.bel.trans ⟨hg.os, hg.tape, hg.output, hg.size, fun i hi => hg.block i (Nat.lt_of_lt_of_le hi hs.2.bel.size) (fun e => by have := (hr i e.symm).1; omega)⟩⟩
theorem ref_len_eq (p : Span) (h : Plain p) : len p = p.hi - p.lo := by unfold len; rw [plain_id h]
structure Box4 (w W : World) (H : Nat) (s : Span) (z m : Int) : Prop where
  b3 : Blk W H 23 #[.int .i64 s.lo, .int .i64 s.hi]
  b4 : Blk W (H + 1) 3 #[.int .i64 z]
  b5 : Blk W (H + 1 + 1) 3 #[.int .i64 m]
  b6 : Blk W (H + 1 + 1 + 1) 4 #[.bool false]
  bel : Below w.heap.size w W
theorem Box4.below {w W W' : World} {H : Nat} {s : Span} {z m : Int} (h : Box4 w W H s z m) (hb : Below W.heap.size W W') : Box4 w W' H s z m :=
  ⟨h.b3.below hb h.b3.lt, h.b4.below hb h.b4.lt, h.b5.below hb h.b5.lt, h.b6.below hb h.b6.lt, below_then h.bel h.bel.size hb⟩
theorem box4_new (w : World) (s : Span) (z m : Int) : Box4 w ((((w.alloc (.cells #[.int .i64 s.lo, .int .i64 s.hi] 23)).alloc (.cells #[.int .i64 z] 3)).alloc (.cells #[.int .i64 m] 3)).alloc (.cells #[.bool false] 4)) w.heap.size s z m := by
  have h1 := Blk.new (w.alloc (.cells #[.int .i64 s.lo, .int .i64 s.hi] 23)) 3 #[.int .i64 z]
  have h2 := Blk.new ((w.alloc (.cells #[.int .i64 s.lo, .int .i64 s.hi] 23)).alloc (.cells #[.int .i64 z] 3)) 3 #[.int .i64 m]
  have h3 := Blk.new (((w.alloc (.cells #[.int .i64 s.lo, .int .i64 s.hi] 23)).alloc (.cells #[.int .i64 z] 3)).alloc (.cells #[.int .i64 m] 3)) 4 #[.bool false]
  simp only [World.size_alloc] at h1 h2 h3
  exact ⟨(((Blk.new w 23 _).alloc _).alloc _).alloc _, (h1.alloc _).alloc _, h2.alloc _, h3, ((((Below.refl _ w).alloc (Nat.le_refl _) _).alloc (by simp) _).alloc (by simp; omega) _).alloc (by simp; omega) _⟩
theorem lst_new {w W : World} {H g7 : Nat} {s p : Span} {z m : Int} (h : Box4 w W H s z m) (h7 : Blk W g7 23 #[.int .i64 p.lo, .int .i64 p.hi]) :
    LSt w (((W.alloc (.cells #[.int .i64 0] 3)).alloc (.cells #[.int .i64 p.lo] 3)).alloc (.cells #[.bool true] 4)) H g7 W.heap.size s p z m 0 p.lo false true := by
  have h1 := Blk.new (W.alloc (.cells #[.int .i64 0] 3)) 3 #[.int .i64 p.lo]
  have h2 := Blk.new ((W.alloc (.cells #[.int .i64 0] 3)).alloc (.cells #[.int .i64 p.lo] 3)) 4 #[.bool true]
  simp only [World.size_alloc] at h1 h2
  have e := h.bel.size
  exact ⟨((h.b3.alloc _).alloc _).alloc _, ((h.b4.alloc _).alloc _).alloc _, ((h.b5.alloc _).alloc _).alloc _, ((h.b6.alloc _).alloc _).alloc _, ((h7.alloc _).alloc _).alloc _, ((Blk.new W 3 _).alloc _).alloc _, h1.alloc _, h2,
    ((h.bel.alloc e _).alloc (by simp; omega) _).alloc (by simp; omega) _⟩
/-- Within a round: the law's boxes, the piece at hand, and what the round has kept. -/
structure XSt (w W Wk : World) (H g7 g8 Bx b0 b1 : Nat) (s p x : Span) (z m k e : Int) (r f : Bool) : Prop where
  st : LSt w Wk H g7 g8 s p z m k e r f
  bx : Blk Wk Bx 23 #[.int .i64 x.lo, .int .i64 x.hi]
  ko : KeepsOthers W Wk
  k2 : Keep2 b0 b1 W Wk
  l0 : b0 < Wk.heap.size
  l1 : b1 < Wk.heap.size
  o1 : H + 1 + 1 + 1 < g7
  o2 : g7 < g8
  o3 : g8 + 1 + 1 < b0
  o4 : g8 + 1 + 1 < b1
  o5 : b0 < Bx
  o6 : b1 < Bx
  o0 : w.heap.size ≤ H
section
variable {w W Wk W' : World} {H g7 g8 Bx b0 b1 : Nat} {s p x : Span} {z m k e : Int} {r f : Bool}
theorem others_below (hb : Below Wk.heap.size Wk W') : KeepsOthers Wk W' :=
  ⟨hb.size, fun i o hi _ => (hb.block i (Array.getElem?_eq_some_iff.1 hi).1).trans hi⟩
theorem XSt.below (h : XSt w W Wk H g7 g8 Bx b0 b1 s p x z m k e r f) (hb : Below Wk.heap.size Wk W') : XSt w W W' H g7 g8 Bx b0 b1 s p x z m k e r f :=
  ⟨h.st.below hb, h.bx.below hb h.bx.lt, h.ko.trans (others_below hb), ⟨(hb.block b0 h.l0).trans h.k2.1, (hb.block b1 h.l1).trans h.k2.2⟩, Nat.lt_of_lt_of_le h.l0 hb.size, Nat.lt_of_lt_of_le h.l1 hb.size, h.o1, h.o2, h.o3, h.o4, h.o5, h.o6, h.o0⟩
theorem XSt.drew (h : XSt w W Wk H g7 g8 Bx b0 b1 s p x z m k e r f) : XSt w W Wk.drew H g7 g8 Bx b0 b1 s p x z m k e r f := h.below (below_drew (Below.refl _ _))
theorem XSt.s10 (h : XSt w W Wk H g7 g8 Bx b0 b1 s p x z m k e r f) (f' : Bool) : XSt w W (Wk.setCell ⟨g8 + 1 + 1, 0, Option.none⟩ (.bool f')) H g7 g8 Bx b0 b1 s p x z m k e r f' := by
  have := h.o1; have := h.o2; have := h.o3; have := h.o4; have := h.o5; have := h.o6; have := h.o0
  exact ⟨⟨h.st.b3.far (by simp only; omega) _, h.st.b4.far (by simp only; omega) _, h.st.b5.far (by simp only; omega) _, h.st.b6.far (by simp only; omega) _, h.st.b7.far (by simp only; omega) _, h.st.b8.far (by simp only; omega) _, h.st.b9.far (by simp only; omega) _, (h.st.b10.set_ 0 _).eq (by simp), h.st.bel.setCell (by simp only; omega) _⟩,
    h.bx.far (by simp only; omega) _, h.ko.trans (KeepsOthers.setCell _ _ _), ⟨(Below.heap_setCell _ _ _ _ (by simp only; omega)).trans h.k2.1, (Below.heap_setCell _ _ _ _ (by simp only; omega)).trans h.k2.2⟩, by simpa [World.setCell] using h.l0, by simpa [World.setCell] using h.l1, h.o1, h.o2, h.o3, h.o4, h.o5, h.o6, h.o0⟩
theorem XSt.s9 (h : XSt w W Wk H g7 g8 Bx b0 b1 s p x z m k e r f) (e' : Int) : XSt w W (Wk.setCell ⟨g8 + 1, 0, Option.none⟩ (.int .i64 e')) H g7 g8 Bx b0 b1 s p x z m k e' r f := by
  have := h.o1; have := h.o2; have := h.o3; have := h.o4; have := h.o5; have := h.o6; have := h.o0
  exact ⟨⟨h.st.b3.far (by simp only; omega) _, h.st.b4.far (by simp only; omega) _, h.st.b5.far (by simp only; omega) _, h.st.b6.far (by simp only; omega) _, h.st.b7.far (by simp only; omega) _, h.st.b8.far (by simp only; omega) _, (h.st.b9.set_ 0 _).eq (by simp), h.st.b10.far (by simp only; omega) _, h.st.bel.setCell (by simp only; omega) _⟩,
    h.bx.far (by simp only; omega) _, h.ko.trans (KeepsOthers.setCell _ _ _), ⟨(Below.heap_setCell _ _ _ _ (by simp only; omega)).trans h.k2.1, (Below.heap_setCell _ _ _ _ (by simp only; omega)).trans h.k2.2⟩, by simpa [World.setCell] using h.l0, by simpa [World.setCell] using h.l1, h.o1, h.o2, h.o3, h.o4, h.o5, h.o6, h.o0⟩
theorem XSt.s8 (h : XSt w W Wk H g7 g8 Bx b0 b1 s p x z m k e r f) (k' : Int) : XSt w W (Wk.setCell ⟨g8, 0, Option.none⟩ (.int .i64 k')) H g7 g8 Bx b0 b1 s p x z m k' e r f := by
  have := h.o1; have := h.o2; have := h.o3; have := h.o4; have := h.o5; have := h.o6; have := h.o0
  exact ⟨⟨h.st.b3.far (by simp only; omega) _, h.st.b4.far (by simp only; omega) _, h.st.b5.far (by simp only; omega) _, h.st.b6.far (by simp only; omega) _, h.st.b7.far (by simp only; omega) _, (h.st.b8.set_ 0 _).eq (by simp), h.st.b9.far (by simp only; omega) _, h.st.b10.far (by simp only; omega) _, h.st.bel.setCell (by simp only; omega) _⟩,
    h.bx.far (by simp only; omega) _, h.ko.trans (KeepsOthers.setCell _ _ _), ⟨(Below.heap_setCell _ _ _ _ (by simp only; omega)).trans h.k2.1, (Below.heap_setCell _ _ _ _ (by simp only; omega)).trans h.k2.2⟩, by simpa [World.setCell] using h.l0, by simpa [World.setCell] using h.l1, h.o1, h.o2, h.o3, h.o4, h.o5, h.o6, h.o0⟩
theorem XSt.s6 (h : XSt w W Wk H g7 g8 Bx b0 b1 s p x z m k e r f) (r' : Bool) : XSt w W (Wk.setCell ⟨H + 1 + 1 + 1, 0, Option.none⟩ (.bool r')) H g7 g8 Bx b0 b1 s p x z m k e r' f := by
  have := h.o1; have := h.o2; have := h.o3; have := h.o4; have := h.o5; have := h.o6; have := h.o0
  exact ⟨⟨h.st.b3.far (by simp only; omega) _, h.st.b4.far (by simp only; omega) _, h.st.b5.far (by simp only; omega) _, (h.st.b6.set_ 0 _).eq (by simp), h.st.b7.far (by simp only; omega) _, h.st.b8.far (by simp only; omega) _, h.st.b9.far (by simp only; omega) _, h.st.b10.far (by simp only; omega) _, h.st.bel.setCell (by simp only; omega) _⟩,
    h.bx.far (by simp only; omega) _, h.ko.trans (KeepsOthers.setCell _ _ _), ⟨(Below.heap_setCell _ _ _ _ (by simp only; omega)).trans h.k2.1, (Below.heap_setCell _ _ _ _ (by simp only; omega)).trans h.k2.2⟩, by simpa [World.setCell] using h.l0, by simpa [World.setCell] using h.l1, h.o1, h.o2, h.o3, h.o4, h.o5, h.o6, h.o0⟩
end
/-- How a round may leave by a return: the result lies in its box. -/
def Left {hi z : Int} (w : World) (H : Nat) (lo : Int) (c : Code) (pre : List (Piece hi z)) (W : World) : Prop := c = .ret ∧ ∃ b : Bool, (Chain lo pre → b = true) ∧ Blk W (H + 1 + 1 + 1) 4 #[.bool b] ∧ Below w.heap.size w W
theorem left_own {hi z : Int} {w : World} {H B : Nat} {lo : Int} (hB : w.heap.size ≤ B) (c : Code) : OwnFrom B (Left (hi := hi) (z := z) w H lo c) := fun pre X Y row hs hg hr => by
  obtain ⟨h1, b, h2, h3, h4⟩ := hs
  exact ⟨h1, b, h2, blk_own h3 hg (fun r e => (hr r e).2), h4.trans ⟨hg.os, hg.tape, hg.output, hg.size, fun i hi => hg.block i (Nat.lt_of_lt_of_le hi h4.size) (fun e => by have := (hr i e.symm).1; omega)⟩⟩
set_option maxRecDepth 100000 in
set_option maxHeartbeats 8000000 in
theorem cuts_walk (s : Span) (z m : Int) (w : World) (hm : -9223372036854775808 ≤ m ∧ m ≤ 9223372036854775807) (hz : -9223372036854775808 ≤ z ∧ z ≤ 9223372036854775807) :
    Calls Try.prog 6 #[.agg #[.int .i64 s.lo, .int .i64 s.hi], .int .i64 z, .int .i64 m] w (Gives w (.bool true)) := by
  have OF := Lib.hid (of_ref s)
  obtain ⟨p, hp⟩ : ∃ p, plain s = p := ⟨_, rfl⟩
  have hpl : Plain p := hp ▸ plain_plain s
  rw [hp] at OF
  have HP := Lib.hid (And.intro hp hpl)
  have LP := Lib.hid (len_ref p)
  obtain ⟨p0, p1, p2, _⟩ := hpl
  have hlen : len p = p.hi - p.lo := ref_len_eq p HP.out.2
  rw [hlen] at LP
  clear hlen hp
  refine (callsIn_wide (n := 9)).1 ?_
  refine callsIn_of_wp_marks Try.func6 rfl trivial ?_ rfl
  simp only [Try.ntmps6, List.size_toArray, List.length_cons, List.length_nil, Nat.reduceAdd, Nat.reduceSub, Array.replicate_succ, Array.replicate_zero, List.push_toArray, List.append_toArray, List.nil_append, List.cons_append]
  refine wpIn_wide.2 ?_
  obtain ⟨W0, hW0⟩ : ∃ W0, W0 = (((w.alloc (.cells #[.int .i64 s.lo, .int .i64 s.hi] 23)).alloc (.cells #[.int .i64 z] 3)).alloc (.cells #[.int .i64 m] 3)).alloc (.cells #[.bool false] 4) := ⟨_, rfl⟩
  have A0 := Lib.hid (show Box4 w W0 w.heap.size s z m by rw [hW0]; exact box4_new w s z m)
  go_wp2_with fail
  rw [← hW0]
  clear hW0
  refine (known_c W0).mono ?_
  rintro e w1 ⟨rfl, b1⟩
  have A1 := Lib.hid (A0.out.below b1)
  have x0 := A1.out.b3.cell 0
  have x1 := A1.out.b3.cell 1
  simp at x0 x1
  clear A0 b1
  go_wp2_with fail
  refine (OF.out _).mono ?_
  rintro e w2 ⟨rfl, b2⟩
  have A2 := Lib.hid (A1.out.below b2)
  clear A1 b2 x0 x1 OF
  go_wp2_with fail
  have B7 := Blk.new w2 23 #[.int .i64 p.lo, .int .i64 p.hi]
  have A3 := A2.out.below ((Below.refl _ w2).alloc (Nat.le_refl _) (.cells #[.int .i64 p.lo, .int .i64 p.hi] 23))
  have hg7 : w.heap.size + 1 + 1 + 1 < w2.heap.size := A2.out.b6.lt
  revert B7 A3
  generalize w2.alloc (.cells #[.int .i64 p.lo, .int .i64 p.hi] 23) = w3
  intro B7 A3
  generalize w2.heap.size = g7 at *
  have A3 := Lib.hid (And.intro A3 B7)
  clear B7 A2
  go_cut [24] from 16 to 24 (fun v24 wx => (v24 = .bool true ∨ v24 = .bool false) ∧ Hid (Box4 w wx w.heap.size s z m ∧ Blk wx g7 23 #[.int .i64 p.lo, .int .i64 p.hi]))
  case first =>
    have x0 : ∀ d os, (Go.Sort.grow (redrawn w3 d) os).cell? ⟨g7, 0, Option.none⟩ = some (.int .i64 p.lo) := fun d os => (A3.out.2.regrown d os).cell 0
    have x1 : ∀ d os, (Go.Sort.grow (redrawn w3 d) os).cell? ⟨g7, 1, Option.none⟩ = some (.int .i64 p.hi) := fun d os => (A3.out.2.regrown d os).cell 1
    have z0 : ∀ d os, (Go.Sort.grow (redrawn w3 d) os).cell? ⟨w.heap.size + 1, 0, Option.none⟩ = some (.int .i64 z) := fun d os => (A3.out.1.b4.regrown d os).cell 0
    have K := Lib.hid (fun d os => Calls.regrown_of (LP.out (Go.Sort.grow (redrawn w3 d) os)))
    have l0 : 0 ≤ p.hi - p.lo := by omega
    have l1 : p.hi - p.lo ≤ 4611686018427387904 := by omega
    generalize p.hi - p.lo = pl at *
    by_cases hz : 0 < z
    · have hz1 : ¬ z = 0 := by omega
      by_cases hq : 500 < pl / z
      · refine wp_region_quiet_below (by kernel_rfl) (by kernel_rfl) ?_
        repeat (go_big_quiet_step (with_reducible exact K.out _ _))
        refine wpQuiet_nil ?_
        rintro _ ⟨⟨nq, osq⟩, rfl⟩
        go_wp2_with fail
        go_meet
        exact ⟨.inl rfl, Lib.hid ⟨A3.out.1.below (below_regrown w3 nq osq), A3.out.2.below (below_regrown w3 nq osq) A3.out.2.lt⟩⟩
      · refine wp_region_quiet_below (by kernel_rfl) (by kernel_rfl) ?_
        repeat (go_big_quiet_step (with_reducible exact K.out _ _))
        refine wpQuiet_nil ?_
        rintro _ ⟨⟨nq, osq⟩, rfl⟩
        go_wp2_with fail
        go_meet
        exact ⟨.inr rfl, Lib.hid ⟨A3.out.1.below (below_regrown w3 nq osq), A3.out.2.below (below_regrown w3 nq osq) A3.out.2.lt⟩⟩
    · have hzd : decide (0 < z) = false := decide_eq_false hz
      refine wp_region_quiet_below (by kernel_rfl) (by kernel_rfl) ?_
      repeat (go_big_quiet_step (with_reducible exact K.out _ _))
      refine wpQuiet_nil ?_
      rintro _ ⟨⟨nq, osq⟩, rfl⟩
      go_wp2_with fail
      go_meet
      exact ⟨.inr rfl, Lib.hid ⟨A3.out.1.below (below_regrown w3 nq osq), A3.out.2.below (below_regrown w3 nq osq) A3.out.2.lt⟩⟩
  case rest =>
    obtain ⟨h24, A4⟩ := hcut
    rcases h24 with rfl | rfl
    · have fz := A4.out.1.b6.frozen
      have c6 := A4.out.1.b6.cell 0
      simp at c6
      go_wp2_with fail
      refine (known_c _).mono ?_
      rintro e w5 ⟨rfl, b5⟩
      have A5 := Lib.hid (A4.out.1.below b5)
      have fz5 := A5.out.b6.frozen
      have c65 := A5.out.b6.cell 0
      simp at c65
      clear b5 fz c6
      go_wp2_with fail
      have h6 := (A5.out.b6.set_ 0 (.bool true)).cell 0
      simp at h6
      refine ⟨_, by simp [results, Try.results6, go_sem, h6], rfl, A5.out.bel.setCell (by simp only; omega) _⟩
    · have x0 := A4.out.2.cell 0
      have s0 := A4.out.1.b3.cell 0
      have s1 := A4.out.1.b3.cell 1
      have z0 := A4.out.1.b4.cell 0
      simp at x0 s0 s1 z0
      have hl7 := A4.out.2.lt
      have hl3 := A4.out.1.b3.lt
      have hl4 := A4.out.1.b4.lt
      go_upto_region 9 with fail
      have L5 := lst_new A4.out.1 A4.out.2
      revert L5
      have hz6 : ((((wc.alloc (.cells #[.int .i64 0] 3)).alloc (.cells #[.int .i64 p.lo] 3)).alloc (.cells #[.bool true] 4))).heap.size = wc.heap.size + 1 + 1 + 1 := by simp
      revert hz6
      generalize ((wc.alloc (.cells #[.int .i64 0] 3)).alloc (.cells #[.int .i64 p.lo] 3)).alloc (.cells #[.bool true] 4) = w5
      intro hz6 L5
      have hg8 : g7 < wc.heap.size := hl7
      generalize wc.heap.size = g8 at *
      have L5 := Lib.hid L5
      clear A4 x0 s0 s1 z0
      have s0 := L5.out.b3.cell 0
      have s1 := L5.out.b3.cell 1
      have z0 := L5.out.b4.cell 0
      simp at s0 s1 z0
      go_wp2_with fail
      refine (callsIn_wide.1 (cut_in Fence.wide 8 rfl s z w5)).mono ?_
      rintro e w6 ⟨rfl, X0, X1, b6⟩
      have L6 := Lib.hid (L5.out.below b6)
      rw [HP.out.1] at X0
      have hz7 : w5.heap.size + 1 < w6.heap.size := X1.lt
      have X0 := Lib.hid X0
      have X1 := Lib.hid X1
      clear L5 b6
      go_wp2_with fail
      rw [hz6] at X0 X1 hz7
      have hs6 : g8 + 1 + 1 < w6.heap.size := by omega
      refine (wpIn_wide (n := 9)).1 ?_
      refine wpIn_rangeFunc_ownH (α := Piece p.hi z) rfl (by omega) (gf := 53) (lb := #[.pointer (some ⟨g8 + 1 + 1 + 1, 0, Option.none⟩), .pointer (some ⟨g8 + 1 + 1 + 1 + 1, 0, Option.none⟩)]) rfl trivial (enters_of Try.func53 (by kernel_rfl) rfl)
        (cut_stops Fence.wide 8 trivial rfl (by omega) (g8 + 1 + 1 + 1) (g8 + 1 + 1 + 1 + 1) p.lo p.hi z ⟨p0, p1, p2⟩ w6 X0.out X1.out) keep2_t (keep2_b (by omega) (by omega)) (Below.refl _ _) (fun _ => rfl)
        (fun pre W => w6.heap.size ≤ W.heap.size ∧ LSt w W w.heap.size g7 g8 s p z m pre.length (endOf p.lo pre) false true)
        (Left w w.heap.size p.lo)
        (lst_own (by have := L6.out.bel.size; omega) _) (left_own (by have := L6.out.bel.size; omega))
        ⟨Nat.le_refl _, L6.out⟩
        (fun x a' W => ∃ Bx, g8 + 1 + 1 + 1 + 1 < Bx ∧ Blk W Bx 23 #[.int .i64 x.1.lo, .int .i64 x.1.hi] ∧ a' = { tmps := #[.agg #[.int .i64 s.lo, .int .i64 s.hi], .int .i64 z, .int .i64 m, .pointer (some ⟨w.heap.size, 0, Option.none⟩), .pointer (some ⟨w.heap.size + 1, 0, Option.none⟩), .pointer (some ⟨w.heap.size + 1 + 1, 0, Option.none⟩), .pointer (some ⟨w.heap.size + 1 + 1 + 1, 0, Option.none⟩), .pointer (some ⟨g7, 0, Option.none⟩), .pointer (some ⟨g8, 0, Option.none⟩), .pointer (some ⟨g8 + 1, 0, Option.none⟩), .pointer (some ⟨g8 + 1 + 1, 0, Option.none⟩), .pointer (some ⟨Bx, 0, Option.none⟩), .bool true, .bool false, .agg #[.int .i64 s.lo, .int .i64 s.hi], .agg #[.int .i64 p.lo, .int .i64 p.hi], u16, u17, u18, u19, u20, u21, u22, u23, .bool false, undef, .pointer (some ⟨g7, 0, Option.none⟩), .int .i64 p.lo, .agg #[.int .i64 s.lo, .int .i64 s.hi], .int .i64 z, .func (.func 53) #[] #[.pointer (some ⟨g8 + 1 + 1 + 1, 0, Option.none⟩), .pointer (some ⟨g8 + 1 + 1 + 1 + 1, 0, Option.none⟩)], .agg #[.int .i64 x.1.lo, .int .i64 x.1.hi], undef, undef, undef, undef, undef, undef, undef, undef, undef, undef, undef, undef, undef, undef, undef, undef, undef, undef, undef, undef, undef, undef, undef, undef, undef, undef, undef, undef, undef, undef, undef, undef, undef, undef, undef, undef, undef, undef, undef, undef, undef, undef, undef, undef, undef, undef, undef, undef, undef, undef, undef, undef, undef, undef, undef, undef, undef, undef, undef, undef, undef, undef, undef, undef, undef, undef, undef], defers := [] })
        (fun x a' _ X Y row hs hg hr => by obtain ⟨Bx, h1, h2, h3⟩ := hs; exact ⟨Bx, h1, blk_own h2 hg (fun r e => (hr r e).2), h3⟩)
        ?assign ?body ?done ?stop
      case assign =>
        rintro l pre x W K ⟨hN, hL⟩ hK
        have hBl : w6.heap.size ≤ W.heap.size := hN
        gi_wp2
        exact hK _ _ ((KeepsOthers.alloc _ _).from _) ⟨Below.heap_alloc W _ _ (by omega), Below.heap_alloc W _ _ (by omega)⟩ ⟨by simp; omega, hL.below ((Below.refl _ W).alloc (Nat.le_refl _) _)⟩ ⟨W.heap.size, by omega, Blk.new W 23 _, rfl⟩
      case body =>
        rintro l pre ⟨⟨xl, xh⟩, c0, c1, c2, c3, c4, c5⟩ a' W hl ⟨rec, hrec⟩ ⟨hN, hL⟩ ⟨Bx, hBx, hX, rfl⟩ hlt
        simp only at c0 c1 c2 c3 c4 c5 hX ⊢
        have hNW : w6.heap.size ≤ W.heap.size := hN
        have X := Lib.hid (show XSt w W W w.heap.size g7 g8 Bx (g8 + 1 + 1 + 1) (g8 + 1 + 1 + 1 + 1) s p ⟨xl, xh⟩ z m pre.length (endOf p.lo pre) false true from
          ⟨hL, hX, KeepsOthers.refl W, ⟨rfl, rfl⟩, by omega, by omega, hg7, hg8, by omega, by omega, by omega, by omega, Nat.le_refl _⟩)
        have LX := Lib.hid (len_ref ⟨xl, xh⟩)
        rw [ref_len_eq ⟨xl, xh⟩ ⟨c0, by simp only; omega, by simp only; omega, by simp only; omega⟩] at LX
        simp only at LX
        have HC := Lib.hid (chain_snoc (⟨⟨xl, xh⟩, c0, c1, c2, c3, c4, c5⟩ : Piece p.hi z) pre p.lo)
        have HE := Lib.hid (end_snoc (⟨⟨xl, xh⟩, c0, c1, c2, c3, c4, c5⟩ : Piece p.hi z) pre p.lo)
        have hk62 : (pre.length : Int) ≤ 4611686018427387904 := by omega
        obtain ⟨pe, hpe⟩ : ∃ pe : List (Piece p.hi z), pe = pre ++ [⟨⟨xl, xh⟩, c0, c1, c2, c3, c4, c5⟩] := ⟨_, rfl⟩
        rw [← hpe] at HC HE ⊢
        have hpl : (pe.length : Int) = pre.length + 1 := by rw [hpe]; simp
        have HPL := Lib.hid hpl
        clear hpe hpl hL hX hrec hlt
        generalize pre.length = k at *
        generalize he : endOf p.lo pre = e at *
        have HEE := Lib.hid he
        clear he
        have ne1 : ¬ Bx = g8 + 1 + 1 := by omega
        have ne2 : ¬ g8 + 1 + 1 = Bx := by omega
        have ne3 : ¬ g7 = g8 + 1 + 1 := by omega
        have ne4 : ¬ g8 + 1 + 1 = g7 := by omega
        have ne5 : ¬ w.heap.size + 1 = g8 + 1 + 1 := by omega
        have ne6 : ¬ g8 + 1 + 1 = w.heap.size + 1 := by omega
        have ne7 : ¬ g8 + 1 = g8 + 1 + 1 := by omega
        have ne8 : ¬ g8 + 1 + 1 = g8 + 1 := by omega
        have ne9 : ¬ w.heap.size = g8 + 1 := by omega
        have ne10 : ¬ g8 + 1 = w.heap.size := by omega
        have ne11 : ¬ w.heap.size + 1 = g8 := by omega
        have ne12 : ¬ g8 = w.heap.size + 1 := by omega
        have ne13 : ¬ w.heap.size + 1 + 1 = g8 := by omega
        have ne14 : ¬ g8 = w.heap.size + 1 + 1 := by omega
        have ne15 : ¬ w.heap.size + 1 + 1 + 1 = g8 := by omega
        have ne16 : ¬ g8 = w.heap.size + 1 + 1 + 1 := by omega
        have ne17 : ¬ Bx = g8 := by omega
        have ne18 : ¬ g8 = Bx := by omega
        have ne19 : ¬ Bx = g8 + 1 := by omega
        have ne20 : ¬ g8 + 1 = Bx := by omega
        have hlen0 : 0 < xh - xl := by omega
        have d0 := X.out.bx.cell 0
        have d1 := X.out.bx.cell 1
        have d2 := X.out.st.b9.cell 0
        have d3 := X.out.st.b7.cell 1
        have d4 := X.out.st.b4.cell 0
        have d5 := X.out.st.b10.cell 0
        have d6 := X.out.st.b10.frozen
        simp at d0 d1 d2 d3 d4 d5
        by_cases h1 : xl = e
        · subst h1
          by_cases h2 : xh = p.hi
          · subst h2
            gi_wp2_with fail
            refine Round.round_held (S := (fun w' => w'.cell? ⟨Bx, 0, Option.none⟩ = some (.int .i64 xl) ∧ w'.cell? ⟨Bx, 1, Option.none⟩ = some (.int .i64 p.hi) ∧ w'.cell? ⟨g8 + 1, 0, Option.none⟩ = some (.int .i64 xl) ∧ w'.cell? ⟨g7, 1, Option.none⟩ = some (.int .i64 p.hi) ∧ w'.cell? ⟨w.heap.size + 1, 0, Option.none⟩ = some (.int .i64 z))) (by rintro ⟨_, _, h⟩; exact h) (by kernel_rfl) (by kernel_rfl) ?_ (fun hHeld => ?_)
            · ((try dsimp only); go_keep)
            refine wpAnyH_ready (rs := [0]) (by kernel_rfl) (by simp) ?_
            refine AllReadyH.cons (o := _) rfl (fun K hK => ?_) AllReadyH.nil
            go_wp2_with fail
            refine hK.out _ _ ?_ (fun hHeld => ?_)
            · ((try dsimp only); go_keep)
            clear hK K
            (try simp only [List.getElem_toArray, List.getElem_cons_succ, List.getElem_cons_zero])
            (try simp only [Act.put, List.setIfInBounds_toArray, List.set_cons_zero, List.set_cons_succ])
            refine wpAnyH_take (i := 1) (oi := _) (v := ?_) rfl (by kernel_rfl) (by kernel_rfl) (by kernel_rfl) (fun _ _ _ h => h) (Or.inl ⟨by rfl, ?_⟩) (by assumption) ?_
            rotate_left
            · intro w hSw
              go_simp
              try with_reducible rfl
            (try simp only [List.getElem_toArray, List.getElem_cons_succ, List.getElem_cons_zero])
            (try simp only [Act.put, List.setIfInBounds_toArray, List.set_cons_zero, List.set_cons_succ])
            refine wpAnyH_take (i := 2) (oi := _) (v := ?_) rfl (by kernel_rfl) (by kernel_rfl) (by kernel_rfl) (fun _ _ _ h => h) (Or.inl ⟨by rfl, ?_⟩) (by assumption) ?_
            rotate_left
            · intro w hSw
              go_simp
              try with_reducible rfl
            (try simp only [List.getElem_toArray, List.getElem_cons_succ, List.getElem_cons_zero])
            (try simp only [Act.put, List.setIfInBounds_toArray, List.set_cons_zero, List.set_cons_succ])
            refine wpAnyH_take (i := 3) (oi := _) (v := ?_) rfl (by kernel_rfl) (by kernel_rfl) (by kernel_rfl) (fun _ _ _ h => h) (Or.inl ⟨by rfl, ?_⟩) (by assumption) ?_
            rotate_left
            · intro w hSw
              go_simp
              try with_reducible rfl
            (try simp only [List.getElem_toArray, List.getElem_cons_succ, List.getElem_cons_zero])
            (try simp only [Act.put, List.setIfInBounds_toArray, List.set_cons_zero, List.set_cons_succ])
            refine wpAnyH_take (i := 4) (oi := _) (v := ?_) rfl (by kernel_rfl) (by kernel_rfl) (by kernel_rfl) (fun _ _ _ h => h) (Or.inl ⟨by rfl, ?_⟩) (by assumption) ?_
            rotate_left
            · intro w hSw
              go_simp
              try with_reducible rfl
            (try simp only [List.getElem_toArray, List.getElem_cons_succ, List.getElem_cons_zero])
            (try simp only [Act.put, List.setIfInBounds_toArray, List.set_cons_zero, List.set_cons_succ])
            refine wpAnyH_take (i := 5) (oi := _) (v := ?_) rfl (by kernel_rfl) (by kernel_rfl) (by kernel_rfl) (fun _ _ _ h => h) (Or.inl ⟨by rfl, ?_⟩) (by assumption) ?_
            rotate_left
            · intro w hSw
              go_simp
              try with_reducible rfl
            (try simp only [List.getElem_toArray, List.getElem_cons_succ, List.getElem_cons_zero])
            (try simp only [Act.put, List.setIfInBounds_toArray, List.set_cons_zero, List.set_cons_succ])
            refine wpAnyH_take (i := 6) (oi := _) (v := ?_) rfl (by kernel_rfl) (by kernel_rfl) (by kernel_rfl) (fun _ _ _ h => h) (Or.inl ⟨by rfl, ?_⟩) (by assumption) ?_
            rotate_left
            · intro w hSw
              go_simp
              try with_reducible rfl
            (try simp only [List.getElem_toArray, List.getElem_cons_succ, List.getElem_cons_zero])
            (try simp only [Act.put, List.setIfInBounds_toArray, List.set_cons_zero, List.set_cons_succ])
            refine wpAnyH_take (i := 7) (oi := _) (v := ?_) rfl (by kernel_rfl) (by kernel_rfl) (by kernel_rfl) (fun _ _ _ h => h) (Or.inl ⟨by rfl, ?_⟩) (by assumption) ?_
            rotate_left
            · intro w hSw
              go_simp
              try with_reducible rfl
            (try simp only [List.getElem_toArray, List.getElem_cons_succ, List.getElem_cons_zero])
            (try simp only [Act.put, List.setIfInBounds_toArray, List.set_cons_zero, List.set_cons_succ])
            refine wpAnyH_take (i := 8) (oi := _) (v := ?_) rfl (by kernel_rfl) (by kernel_rfl) (by kernel_rfl) (fun _ _ _ h => h) (Or.inl ⟨by rfl, ?_⟩) (by assumption) ?_
            rotate_left
            · intro w hSw
              go_simp
              try with_reducible rfl
            (try simp only [List.getElem_toArray, List.getElem_cons_succ, List.getElem_cons_zero])
            (try simp only [Act.put, List.setIfInBounds_toArray, List.set_cons_zero, List.set_cons_succ])
            refine wpAnyH_ready (rs := [9]) (by kernel_rfl) (by simp) ?_
            refine AllReadyH.cons (o := _) rfl (fun K hK => ?_) AllReadyH.nil
            go_simp
            refine (LX.out _).mono ?_
            rintro e wn ⟨rfl, bn⟩
            have X := Lib.hid (XSt.below (by first | exact X.out | exact X.out.drew) bn)
            have d0 := X.out.bx.cell 0
            have d1 := X.out.bx.cell 1
            have d2 := X.out.st.b9.cell 0
            have d3 := X.out.st.b7.cell 1
            have d4 := X.out.st.b4.cell 0
            have d5 := X.out.st.b10.cell 0
            have d6 := X.out.st.b10.frozen
            simp at d0 d1 d2 d3 d4 d5
            clear bn
            (try go_wp2_with fail)
            refine hK.out _ _ ?_ (fun hHeld => ?_)
            · ((try dsimp only); go_keep)
            clear hK K
            (try simp only [List.getElem_toArray, List.getElem_cons_succ, List.getElem_cons_zero])
            (try simp only [Act.put, List.setIfInBounds_toArray, List.set_cons_zero, List.set_cons_succ])
            refine wpAnyH_take (i := 10) (oi := _) (v := ?_) rfl (by kernel_rfl) (by kernel_rfl) (by kernel_rfl) (fun _ _ _ h => h) (Or.inl ⟨by rfl, ?_⟩) (by assumption) ?_
            rotate_left
            · intro w hSw
              go_simp
              try with_reducible rfl
            (try simp only [List.getElem_toArray, List.getElem_cons_succ, List.getElem_cons_zero])
            (try simp only [Act.put, List.setIfInBounds_toArray, List.set_cons_zero, List.set_cons_succ])
            refine wpAnyH_take (i := 11) (oi := _) (v := ?_) rfl (by kernel_rfl) (by kernel_rfl) (by kernel_rfl) (fun _ _ _ h => h) (Or.inl ⟨by rfl, ?_⟩) (by assumption) ?_
            rotate_left
            · intro w hSw
              go_simp
              try with_reducible rfl
            (try simp only [List.getElem_toArray, List.getElem_cons_succ, List.getElem_cons_zero])
            (try simp only [Act.put, List.setIfInBounds_toArray, List.set_cons_zero, List.set_cons_succ])
            refine wpAnyH_take (i := 12) (oi := _) (v := ?_) rfl (by kernel_rfl) (by kernel_rfl) (by kernel_rfl) (fun _ _ _ h => h) (Or.inl ⟨by rfl, ?_⟩) (by assumption) ?_
            rotate_left
            · intro w hSw
              go_simp
              try with_reducible rfl
            (try simp only [List.getElem_toArray, List.getElem_cons_succ, List.getElem_cons_zero])
            (try simp only [Act.put, List.setIfInBounds_toArray, List.set_cons_zero, List.set_cons_succ])
            refine wpAnyH_take (i := 13) (oi := _) (v := ?_) rfl (by kernel_rfl) (by kernel_rfl) (by kernel_rfl) (fun _ _ _ h => h) (Or.inl ⟨by rfl, ?_⟩) (by assumption) ?_
            rotate_left
            · intro w hSw
              go_simp
              try with_reducible rfl
            (try simp only [List.getElem_toArray, List.getElem_cons_succ, List.getElem_cons_zero])
            (try simp only [Act.put, List.setIfInBounds_toArray, List.set_cons_zero, List.set_cons_succ])
            refine wpAnyH_take (i := 14) (oi := _) (v := ?_) rfl (by kernel_rfl) (by kernel_rfl) (by kernel_rfl) (fun _ _ _ h => h) (Or.inl ⟨by rfl, ?_⟩) (by assumption) ?_
            rotate_left
            · intro w hSw
              go_simp
              try with_reducible rfl
            (try simp only [List.getElem_toArray, List.getElem_cons_succ, List.getElem_cons_zero])
            (try simp only [Act.put, List.setIfInBounds_toArray, List.set_cons_zero, List.set_cons_succ])
            refine wpAnyH_take (i := 15) (oi := _) (v := ?_) rfl (by kernel_rfl) (by kernel_rfl) (by kernel_rfl) (fun _ _ _ h => h) (Or.inl ⟨by rfl, ?_⟩) (by assumption) ?_
            rotate_left
            · intro w hSw
              go_simp
              try with_reducible rfl
            (try simp only [List.getElem_toArray, List.getElem_cons_succ, List.getElem_cons_zero])
            (try simp only [Act.put, List.setIfInBounds_toArray, List.set_cons_zero, List.set_cons_succ])
            refine wpAnyH_take (i := 16) (oi := _) (v := ?_) rfl (by kernel_rfl) (by kernel_rfl) (by kernel_rfl) (fun _ _ _ h => h) (Or.inl ⟨by rfl, ?_⟩) (by assumption) ?_
            rotate_left
            · intro w hSw
              go_simp
              try with_reducible rfl
            (try simp only [List.getElem_toArray, List.getElem_cons_succ, List.getElem_cons_zero])
            (try simp only [Act.put, List.setIfInBounds_toArray, List.set_cons_zero, List.set_cons_succ])
            refine wpAnyH_take (i := 17) (oi := _) (v := ?_) rfl (by kernel_rfl) (by kernel_rfl) (by kernel_rfl) (fun _ _ _ h => h) (Or.inl ⟨by rfl, ?_⟩) (by assumption) ?_
            rotate_left
            · intro w hSw
              go_simp
              try with_reducible rfl
            (try simp only [List.getElem_toArray, List.getElem_cons_succ, List.getElem_cons_zero])
            (try simp only [Act.put, List.setIfInBounds_toArray, List.set_cons_zero, List.set_cons_succ])
            refine wpAnyH_take (i := 18) (oi := _) (v := ?_) rfl (by kernel_rfl) (by kernel_rfl) (by kernel_rfl) (fun _ _ _ h => h) (Or.inl ⟨by rfl, ?_⟩) (by assumption) ?_
            rotate_left
            · intro w hSw
              go_simp
              try with_reducible rfl
            (try simp only [List.getElem_toArray, List.getElem_cons_succ, List.getElem_cons_zero])
            (try simp only [Act.put, List.setIfInBounds_toArray, List.set_cons_zero, List.set_cons_succ])
            refine wpAnyH_take (i := 19) (oi := _) (v := ?_) rfl (by kernel_rfl) (by kernel_rfl) (by kernel_rfl) (fun _ _ _ h => h) (Or.inl ⟨by rfl, ?_⟩) (by assumption) ?_
            rotate_left
            · intro w hSw
              go_simp
              try with_reducible rfl
            (try simp only [List.getElem_toArray, List.getElem_cons_succ, List.getElem_cons_zero])
            (try simp only [Act.put, List.setIfInBounds_toArray, List.set_cons_zero, List.set_cons_succ])
            refine wpAnyH_take (i := 20) (oi := _) (v := ?_) rfl (by kernel_rfl) (by kernel_rfl) (by kernel_rfl) (fun _ _ _ h => h) (Or.inl ⟨by rfl, ?_⟩) (by assumption) ?_
            rotate_left
            · intro w hSw
              go_simp
              try with_reducible rfl
            (try simp only [List.getElem_toArray, List.getElem_cons_succ, List.getElem_cons_zero])
            (try simp only [Act.put, List.setIfInBounds_toArray, List.set_cons_zero, List.set_cons_succ])
            refine wpAnyH_take (i := 21) (oi := _) (v := ?_) rfl (by kernel_rfl) (by kernel_rfl) (by kernel_rfl) (fun _ _ _ h => h) (Or.inl ⟨by rfl, ?_⟩) (by assumption) ?_
            rotate_left
            · intro w hSw
              go_simp
              try with_reducible rfl
            (try simp only [List.getElem_toArray, List.getElem_cons_succ, List.getElem_cons_zero])
            (try simp only [Act.put, List.setIfInBounds_toArray, List.set_cons_zero, List.set_cons_succ])
            refine wpAnyH_take (i := 22) (oi := _) (v := ?_) rfl (by kernel_rfl) (by kernel_rfl) (by kernel_rfl) (fun _ _ _ h => h) (Or.inl ⟨by rfl, ?_⟩) (by assumption) ?_
            rotate_left
            · intro w hSw
              go_simp
              try with_reducible rfl
            (try simp only [List.getElem_toArray, List.getElem_cons_succ, List.getElem_cons_zero])
            (try simp only [Act.put, List.setIfInBounds_toArray, List.set_cons_zero, List.set_cons_succ])
            refine wpAnyH_take (i := 23) (oi := _) (v := ?_) rfl (by kernel_rfl) (by kernel_rfl) (by kernel_rfl) (fun _ _ _ h => h) (Or.inl ⟨by rfl, ?_⟩) (by assumption) ?_
            rotate_left
            · intro w hSw
              go_simp
              try with_reducible rfl
            (try simp only [List.getElem_toArray, List.getElem_cons_succ, List.getElem_cons_zero])
            (try simp only [Act.put, List.setIfInBounds_toArray, List.set_cons_zero, List.set_cons_succ])
            refine wpAnyH_take (i := 24) (oi := _) (v := ?_) rfl (by kernel_rfl) (by kernel_rfl) (by kernel_rfl) (fun _ _ _ h => h) (Or.inl ⟨by rfl, ?_⟩) (by assumption) ?_
            rotate_left
            · intro w hSw
              go_simp
              try with_reducible rfl
            (try simp only [List.getElem_toArray, List.getElem_cons_succ, List.getElem_cons_zero])
            (try simp only [Act.put, List.setIfInBounds_toArray, List.set_cons_zero, List.set_cons_succ])
            refine wpAnyH_take (i := 25) (oi := _) (v := ?_) rfl (by kernel_rfl) (by kernel_rfl) (by kernel_rfl) (fun _ _ _ h => h) (Or.inl ⟨by rfl, ?_⟩) (by assumption) ?_
            rotate_left
            · intro w hSw
              go_simp
              try with_reducible rfl
            (try simp only [List.getElem_toArray, List.getElem_cons_succ, List.getElem_cons_zero])
            (try simp only [Act.put, List.setIfInBounds_toArray, List.set_cons_zero, List.set_cons_succ])
            refine wpAnyH_take (i := 26) (oi := _) (v := undef) rfl (by kernel_rfl) (by kernel_rfl) (by kernel_rfl) (fun _ _ _ h => h) (Or.inr ⟨by rfl, rfl⟩) (by assumption) ?_
            (try simp only [List.getElem_toArray, List.getElem_cons_succ, List.getElem_cons_zero])
            (try simp only [Act.put, List.setIfInBounds_toArray, List.set_cons_zero, List.set_cons_succ])
            refine wpAnyH_take (i := 28) (oi := _) (v := undef) rfl (by kernel_rfl) (by kernel_rfl) (by kernel_rfl) (fun _ _ _ h => h) (Or.inr ⟨by rfl, rfl⟩) (by assumption) ?_
            (try simp only [List.getElem_toArray, List.getElem_cons_succ, List.getElem_cons_zero])
            (try simp only [Act.put, List.setIfInBounds_toArray, List.set_cons_zero, List.set_cons_succ])
            refine wpAnyH_take (i := 27) (oi := _) (v := undef) rfl (by kernel_rfl) (by kernel_rfl) (by kernel_rfl) (fun _ _ _ h => h) (Or.inr ⟨by rfl, rfl⟩) (by assumption) ?_
            (try simp only [List.getElem_toArray, List.getElem_cons_succ, List.getElem_cons_zero])
            (try simp only [Act.put, List.setIfInBounds_toArray, List.set_cons_zero, List.set_cons_succ])
            refine wpAnyH_take (i := 29) (oi := _) (v := undef) rfl (by kernel_rfl) (by kernel_rfl) (by kernel_rfl) (fun _ _ _ h => h) (Or.inr ⟨by rfl, rfl⟩) (by assumption) ?_
            (try simp only [List.getElem_toArray, List.getElem_cons_succ, List.getElem_cons_zero])
            (try simp only [Act.put, List.setIfInBounds_toArray, List.set_cons_zero, List.set_cons_succ])
            refine wpAnyH_take (i := 30) (oi := _) (v := ?_) rfl (by kernel_rfl) (by kernel_rfl) (by kernel_rfl) (fun _ _ _ h => h) (Or.inl ⟨by rfl, ?_⟩) (by assumption) ?_
            rotate_left
            · intro w hSw
              go_simp
              try with_reducible rfl
            (try simp only [List.getElem_toArray, List.getElem_cons_succ, List.getElem_cons_zero])
            (try simp only [Act.put, List.setIfInBounds_toArray, List.set_cons_zero, List.set_cons_succ])
            refine wpAnyH_take (i := 31) (oi := _) (v := ?_) rfl (by kernel_rfl) (by kernel_rfl) (by kernel_rfl) (fun _ _ _ h => h) (Or.inl ⟨by rfl, ?_⟩) (by assumption) ?_
            rotate_left
            · intro w hSw
              go_simp
              try with_reducible rfl
            (try simp only [List.getElem_toArray, List.getElem_cons_succ, List.getElem_cons_zero])
            (try simp only [Act.put, List.setIfInBounds_toArray, List.set_cons_zero, List.set_cons_succ])
            refine wpAnyH_take (i := 32) (oi := _) (v := ?_) rfl (by kernel_rfl) (by kernel_rfl) (by kernel_rfl) (fun _ _ _ h => h) (Or.inl ⟨by rfl, ?_⟩) (by assumption) ?_
            rotate_left
            · intro w hSw
              go_simp
              try with_reducible rfl
            (try simp only [List.getElem_toArray, List.getElem_cons_succ, List.getElem_cons_zero])
            (try simp only [Act.put, List.setIfInBounds_toArray, List.set_cons_zero, List.set_cons_succ])
            refine wpAnyH_take (i := 33) (oi := _) (v := ?_) rfl (by kernel_rfl) (by kernel_rfl) (by kernel_rfl) (fun _ _ _ h => h) (Or.inl ⟨by rfl, ?_⟩) (by assumption) ?_
            rotate_left
            · intro w hSw
              go_simp
              try with_reducible rfl
            (try simp only [List.getElem_toArray, List.getElem_cons_succ, List.getElem_cons_zero])
            (try simp only [Act.put, List.setIfInBounds_toArray, List.set_cons_zero, List.set_cons_succ])
            refine wpAnyH_take (i := 35) (oi := _) (v := ?_) rfl (by kernel_rfl) (by kernel_rfl) (by kernel_rfl) (fun _ _ _ h => h) (Or.inl ⟨by rfl, ?_⟩) (by assumption) ?_
            rotate_left
            · intro w hSw
              go_simp
              try with_reducible rfl
            (try simp only [List.getElem_toArray, List.getElem_cons_succ, List.getElem_cons_zero])
            (try simp only [Act.put, List.setIfInBounds_toArray, List.set_cons_zero, List.set_cons_succ])
            refine wpAnyH_ready (rs := [34]) (by kernel_rfl) (by simp) ?_
            refine AllReadyH.cons (o := _) rfl (fun K hK => ?_) AllReadyH.nil
            go_simp
            refine (LX.out _).mono ?_
            rintro e wn ⟨rfl, bn⟩
            have X := Lib.hid (XSt.below (by first | exact X.out | exact X.out.drew) bn)
            have d0 := X.out.bx.cell 0
            have d1 := X.out.bx.cell 1
            have d2 := X.out.st.b9.cell 0
            have d3 := X.out.st.b7.cell 1
            have d4 := X.out.st.b4.cell 0
            have d5 := X.out.st.b10.cell 0
            have d6 := X.out.st.b10.frozen
            simp at d0 d1 d2 d3 d4 d5
            clear bn
            (try go_wp2_with fail)
            refine hK.out _ _ ?_ (fun hHeld => ?_)
            · ((try dsimp only); go_keep)
            clear hK K
            (try simp only [List.getElem_toArray, List.getElem_cons_succ, List.getElem_cons_zero])
            (try simp only [Act.put, List.setIfInBounds_toArray, List.set_cons_zero, List.set_cons_succ])
            refine wpAnyH_take (i := 36) (oi := _) (v := ?_) rfl (by kernel_rfl) (by kernel_rfl) (by kernel_rfl) (fun _ _ _ h => h) (Or.inl ⟨by rfl, ?_⟩) (by assumption) ?_
            rotate_left
            · intro w hSw
              go_simp
              try with_reducible rfl
            (try simp only [List.getElem_toArray, List.getElem_cons_succ, List.getElem_cons_zero])
            (try simp only [Act.put, List.setIfInBounds_toArray, List.set_cons_zero, List.set_cons_succ])
            refine wpAnyH_take (i := 37) (oi := _) (v := ?_) rfl (by kernel_rfl) (by kernel_rfl) (by kernel_rfl) (fun _ _ _ h => h) (Or.inl ⟨by rfl, ?_⟩) (by assumption) ?_
            rotate_left
            · intro w hSw
              go_simp
              try with_reducible rfl
            (try simp only [List.getElem_toArray, List.getElem_cons_succ, List.getElem_cons_zero])
            (try simp only [Act.put, List.setIfInBounds_toArray, List.set_cons_zero, List.set_cons_succ])
            refine wpAnyH_ready (rs := [38]) (by kernel_rfl) (by simp) ?_
            refine AllReadyH.cons (o := _) rfl (fun K hK => ?_) AllReadyH.nil
            go_simp
            refine hK.out _ _ ?_ (fun hHeld => ?_)
            · ((try dsimp only); go_keep)
            clear hK K
            (try simp only [List.getElem_toArray, List.getElem_cons_succ, List.getElem_cons_zero])
            (try simp only [Act.put, List.setIfInBounds_toArray, List.set_cons_zero, List.set_cons_succ])
            refine wpAnyH_done (by kernel_rfl) ?_ _
            have X := Lib.hid (X.out.s10 true)
            revert X
            generalize wn.setCell ⟨g8 + 1 + 1, 0, Option.none⟩ (.bool true) = wr
            intro X
            have d0 := X.out.bx.cell 0
            have d1 := X.out.bx.cell 1
            have d2 := X.out.st.b9.cell 0
            have d7 := X.out.st.b8.cell 0
            have d8 := X.out.st.b5.cell 0
            have d5 := X.out.st.b10.cell 0
            have f9 := X.out.st.b9.frozen
            have f8 := X.out.st.b8.frozen
            have f6 := X.out.st.b6.frozen
            have d6 := X.out.st.b6.cell 0
            simp at d0 d1 d2 d7 d8 d5 d6
            by_cases hm2 : k + 1 = m
            · have hmb : ((k + 1 : Int) == m) = true := by simpa using hm2
              have hmd : decide (k + 1 = m) = true := decide_eq_true hm2
              have HM := Lib.hid hm2
              clear hm2
              gi_wp2_with fail
              (refine ⟨trivial, ?_⟩; gi_at_call 12; refine (CallsIn.inRound l (callsIn_wide.2 (known_c _))).mono ?_; rintro e w9 ⟨rfl, b9⟩; have X9 := Lib.hid (((X.out.s9 p.hi).s8 (k + 1)).below b9); have f69 := X9.out.st.b6.frozen; have d69 := X9.out.st.b6.cell 0; have d59 := X9.out.st.b10.cell 0; (simp at d69 d59); clear b9)
              gi_wp2
              have Y := X9.out.s6 true
              exact ⟨Y.ko.from _, rfl, true, fun _ => rfl, Y.st.b6, Y.st.bel⟩
            · have hmb : ((k + 1 : Int) == m) = false := by simpa using hm2
              have hmd : decide (k + 1 = m) = false := decide_eq_false hm2
              clear hm2
              gi_wp2
              have Y := (X.out.s9 p.hi).s8 (k + 1)
              refine ⟨Y.ko.from _, Y.k2, Nat.le_trans hNW Y.ko.size, ?_⟩
              rw [HPL.out, HE.out]
              exact Y.st
          · have h3 : xh - xl = z := c4.resolve_left h2
            have h3d : decide (xh - xl = z) = true := decide_eq_true h3
            have h2d : decide (xh = p.hi) = false := decide_eq_false h2
            have h2b : (xh == p.hi) = false := by simpa using h2
            have h3b : ((xh - xl) == z) = true := by simpa using h3
            clear h3 h2
            gi_wp2_with fail
            refine Round.round_held (S := (fun w' => w'.cell? ⟨Bx, 0, Option.none⟩ = some (.int .i64 xl) ∧ w'.cell? ⟨Bx, 1, Option.none⟩ = some (.int .i64 xh) ∧ w'.cell? ⟨g8 + 1, 0, Option.none⟩ = some (.int .i64 xl) ∧ w'.cell? ⟨g7, 1, Option.none⟩ = some (.int .i64 p.hi) ∧ w'.cell? ⟨w.heap.size + 1, 0, Option.none⟩ = some (.int .i64 z))) (by rintro ⟨_, _, h⟩; exact h) (by kernel_rfl) (by kernel_rfl) ?_ (fun hHeld => ?_)
            · ((try dsimp only); go_keep)
            refine wpAnyH_ready (rs := [0]) (by kernel_rfl) (by simp) ?_
            refine AllReadyH.cons (o := _) rfl (fun K hK => ?_) AllReadyH.nil
            go_wp2_with fail
            refine hK.out _ _ ?_ (fun hHeld => ?_)
            · ((try dsimp only); go_keep)
            clear hK K
            (try simp only [List.getElem_toArray, List.getElem_cons_succ, List.getElem_cons_zero])
            (try simp only [Act.put, List.setIfInBounds_toArray, List.set_cons_zero, List.set_cons_succ])
            refine wpAnyH_take (i := 1) (oi := _) (v := ?_) rfl (by kernel_rfl) (by kernel_rfl) (by kernel_rfl) (fun _ _ _ h => h) (Or.inl ⟨by rfl, ?_⟩) (by assumption) ?_
            rotate_left
            · intro w hSw
              go_simp
              try with_reducible rfl
            (try simp only [List.getElem_toArray, List.getElem_cons_succ, List.getElem_cons_zero])
            (try simp only [Act.put, List.setIfInBounds_toArray, List.set_cons_zero, List.set_cons_succ])
            refine wpAnyH_take (i := 2) (oi := _) (v := ?_) rfl (by kernel_rfl) (by kernel_rfl) (by kernel_rfl) (fun _ _ _ h => h) (Or.inl ⟨by rfl, ?_⟩) (by assumption) ?_
            rotate_left
            · intro w hSw
              go_simp
              try with_reducible rfl
            (try simp only [List.getElem_toArray, List.getElem_cons_succ, List.getElem_cons_zero])
            (try simp only [Act.put, List.setIfInBounds_toArray, List.set_cons_zero, List.set_cons_succ])
            refine wpAnyH_take (i := 3) (oi := _) (v := ?_) rfl (by kernel_rfl) (by kernel_rfl) (by kernel_rfl) (fun _ _ _ h => h) (Or.inl ⟨by rfl, ?_⟩) (by assumption) ?_
            rotate_left
            · intro w hSw
              go_simp
              try with_reducible rfl
            (try simp only [List.getElem_toArray, List.getElem_cons_succ, List.getElem_cons_zero])
            (try simp only [Act.put, List.setIfInBounds_toArray, List.set_cons_zero, List.set_cons_succ])
            refine wpAnyH_take (i := 4) (oi := _) (v := ?_) rfl (by kernel_rfl) (by kernel_rfl) (by kernel_rfl) (fun _ _ _ h => h) (Or.inl ⟨by rfl, ?_⟩) (by assumption) ?_
            rotate_left
            · intro w hSw
              go_simp
              try with_reducible rfl
            (try simp only [List.getElem_toArray, List.getElem_cons_succ, List.getElem_cons_zero])
            (try simp only [Act.put, List.setIfInBounds_toArray, List.set_cons_zero, List.set_cons_succ])
            refine wpAnyH_take (i := 5) (oi := _) (v := ?_) rfl (by kernel_rfl) (by kernel_rfl) (by kernel_rfl) (fun _ _ _ h => h) (Or.inl ⟨by rfl, ?_⟩) (by assumption) ?_
            rotate_left
            · intro w hSw
              go_simp
              try with_reducible rfl
            (try simp only [List.getElem_toArray, List.getElem_cons_succ, List.getElem_cons_zero])
            (try simp only [Act.put, List.setIfInBounds_toArray, List.set_cons_zero, List.set_cons_succ])
            refine wpAnyH_take (i := 6) (oi := _) (v := ?_) rfl (by kernel_rfl) (by kernel_rfl) (by kernel_rfl) (fun _ _ _ h => h) (Or.inl ⟨by rfl, ?_⟩) (by assumption) ?_
            rotate_left
            · intro w hSw
              go_simp
              try with_reducible rfl
            (try simp only [List.getElem_toArray, List.getElem_cons_succ, List.getElem_cons_zero])
            (try simp only [Act.put, List.setIfInBounds_toArray, List.set_cons_zero, List.set_cons_succ])
            refine wpAnyH_take (i := 7) (oi := _) (v := ?_) rfl (by kernel_rfl) (by kernel_rfl) (by kernel_rfl) (fun _ _ _ h => h) (Or.inl ⟨by rfl, ?_⟩) (by assumption) ?_
            rotate_left
            · intro w hSw
              go_simp
              try with_reducible rfl
            (try simp only [List.getElem_toArray, List.getElem_cons_succ, List.getElem_cons_zero])
            (try simp only [Act.put, List.setIfInBounds_toArray, List.set_cons_zero, List.set_cons_succ])
            refine wpAnyH_take (i := 8) (oi := _) (v := ?_) rfl (by kernel_rfl) (by kernel_rfl) (by kernel_rfl) (fun _ _ _ h => h) (Or.inl ⟨by rfl, ?_⟩) (by assumption) ?_
            rotate_left
            · intro w hSw
              go_simp
              try with_reducible rfl
            (try simp only [List.getElem_toArray, List.getElem_cons_succ, List.getElem_cons_zero])
            (try simp only [Act.put, List.setIfInBounds_toArray, List.set_cons_zero, List.set_cons_succ])
            refine wpAnyH_ready (rs := [9]) (by kernel_rfl) (by simp) ?_
            refine AllReadyH.cons (o := _) rfl (fun K hK => ?_) AllReadyH.nil
            go_simp
            refine (LX.out _).mono ?_
            rintro e wn ⟨rfl, bn⟩
            have X := Lib.hid (XSt.below (by first | exact X.out | exact X.out.drew) bn)
            have d0 := X.out.bx.cell 0
            have d1 := X.out.bx.cell 1
            have d2 := X.out.st.b9.cell 0
            have d3 := X.out.st.b7.cell 1
            have d4 := X.out.st.b4.cell 0
            have d5 := X.out.st.b10.cell 0
            have d6 := X.out.st.b10.frozen
            simp at d0 d1 d2 d3 d4 d5
            clear bn
            (try go_wp2_with fail)
            refine hK.out _ _ ?_ (fun hHeld => ?_)
            · ((try dsimp only); go_keep)
            clear hK K
            (try simp only [List.getElem_toArray, List.getElem_cons_succ, List.getElem_cons_zero])
            (try simp only [Act.put, List.setIfInBounds_toArray, List.set_cons_zero, List.set_cons_succ])
            refine wpAnyH_take (i := 10) (oi := _) (v := ?_) rfl (by kernel_rfl) (by kernel_rfl) (by kernel_rfl) (fun _ _ _ h => h) (Or.inl ⟨by rfl, ?_⟩) (by assumption) ?_
            rotate_left
            · intro w hSw
              go_simp
              try with_reducible rfl
            (try simp only [List.getElem_toArray, List.getElem_cons_succ, List.getElem_cons_zero])
            (try simp only [Act.put, List.setIfInBounds_toArray, List.set_cons_zero, List.set_cons_succ])
            refine wpAnyH_take (i := 11) (oi := _) (v := ?_) rfl (by kernel_rfl) (by kernel_rfl) (by kernel_rfl) (fun _ _ _ h => h) (Or.inl ⟨by rfl, ?_⟩) (by assumption) ?_
            rotate_left
            · intro w hSw
              go_simp
              try with_reducible rfl
            (try simp only [List.getElem_toArray, List.getElem_cons_succ, List.getElem_cons_zero])
            (try simp only [Act.put, List.setIfInBounds_toArray, List.set_cons_zero, List.set_cons_succ])
            refine wpAnyH_take (i := 12) (oi := _) (v := ?_) rfl (by kernel_rfl) (by kernel_rfl) (by kernel_rfl) (fun _ _ _ h => h) (Or.inl ⟨by rfl, ?_⟩) (by assumption) ?_
            rotate_left
            · intro w hSw
              go_simp
              try with_reducible rfl
            (try simp only [List.getElem_toArray, List.getElem_cons_succ, List.getElem_cons_zero])
            (try simp only [Act.put, List.setIfInBounds_toArray, List.set_cons_zero, List.set_cons_succ])
            refine wpAnyH_take (i := 13) (oi := _) (v := ?_) rfl (by kernel_rfl) (by kernel_rfl) (by kernel_rfl) (fun _ _ _ h => h) (Or.inl ⟨by rfl, ?_⟩) (by assumption) ?_
            rotate_left
            · intro w hSw
              go_simp
              try with_reducible rfl
            (try simp only [List.getElem_toArray, List.getElem_cons_succ, List.getElem_cons_zero])
            (try simp only [Act.put, List.setIfInBounds_toArray, List.set_cons_zero, List.set_cons_succ])
            refine wpAnyH_take (i := 14) (oi := _) (v := ?_) rfl (by kernel_rfl) (by kernel_rfl) (by kernel_rfl) (fun _ _ _ h => h) (Or.inl ⟨by rfl, ?_⟩) (by assumption) ?_
            rotate_left
            · intro w hSw
              go_simp
              try with_reducible rfl
            (try simp only [List.getElem_toArray, List.getElem_cons_succ, List.getElem_cons_zero])
            (try simp only [Act.put, List.setIfInBounds_toArray, List.set_cons_zero, List.set_cons_succ])
            refine wpAnyH_take (i := 15) (oi := _) (v := ?_) rfl (by kernel_rfl) (by kernel_rfl) (by kernel_rfl) (fun _ _ _ h => h) (Or.inl ⟨by rfl, ?_⟩) (by assumption) ?_
            rotate_left
            · intro w hSw
              go_simp
              try with_reducible rfl
            (try simp only [List.getElem_toArray, List.getElem_cons_succ, List.getElem_cons_zero])
            (try simp only [Act.put, List.setIfInBounds_toArray, List.set_cons_zero, List.set_cons_succ])
            refine wpAnyH_take (i := 16) (oi := _) (v := ?_) rfl (by kernel_rfl) (by kernel_rfl) (by kernel_rfl) (fun _ _ _ h => h) (Or.inl ⟨by rfl, ?_⟩) (by assumption) ?_
            rotate_left
            · intro w hSw
              go_simp
              try with_reducible rfl
            (try simp only [List.getElem_toArray, List.getElem_cons_succ, List.getElem_cons_zero])
            (try simp only [Act.put, List.setIfInBounds_toArray, List.set_cons_zero, List.set_cons_succ])
            refine wpAnyH_take (i := 17) (oi := _) (v := ?_) rfl (by kernel_rfl) (by kernel_rfl) (by kernel_rfl) (fun _ _ _ h => h) (Or.inl ⟨by rfl, ?_⟩) (by assumption) ?_
            rotate_left
            · intro w hSw
              go_simp
              try with_reducible rfl
            (try simp only [List.getElem_toArray, List.getElem_cons_succ, List.getElem_cons_zero])
            (try simp only [Act.put, List.setIfInBounds_toArray, List.set_cons_zero, List.set_cons_succ])
            refine wpAnyH_take (i := 18) (oi := _) (v := ?_) rfl (by kernel_rfl) (by kernel_rfl) (by kernel_rfl) (fun _ _ _ h => h) (Or.inl ⟨by rfl, ?_⟩) (by assumption) ?_
            rotate_left
            · intro w hSw
              go_simp
              try with_reducible rfl
            (try simp only [List.getElem_toArray, List.getElem_cons_succ, List.getElem_cons_zero])
            (try simp only [Act.put, List.setIfInBounds_toArray, List.set_cons_zero, List.set_cons_succ])
            refine wpAnyH_take (i := 19) (oi := _) (v := ?_) rfl (by kernel_rfl) (by kernel_rfl) (by kernel_rfl) (fun _ _ _ h => h) (Or.inl ⟨by rfl, ?_⟩) (by assumption) ?_
            rotate_left
            · intro w hSw
              go_simp
              try with_reducible rfl
            (try simp only [List.getElem_toArray, List.getElem_cons_succ, List.getElem_cons_zero])
            (try simp only [Act.put, List.setIfInBounds_toArray, List.set_cons_zero, List.set_cons_succ])
            refine wpAnyH_take (i := 20) (oi := _) (v := ?_) rfl (by kernel_rfl) (by kernel_rfl) (by kernel_rfl) (fun _ _ _ h => h) (Or.inl ⟨by rfl, ?_⟩) (by assumption) ?_
            rotate_left
            · intro w hSw
              go_simp
              try with_reducible rfl
            (try simp only [List.getElem_toArray, List.getElem_cons_succ, List.getElem_cons_zero])
            (try simp only [Act.put, List.setIfInBounds_toArray, List.set_cons_zero, List.set_cons_succ])
            refine wpAnyH_take (i := 21) (oi := _) (v := ?_) rfl (by kernel_rfl) (by kernel_rfl) (by kernel_rfl) (fun _ _ _ h => h) (Or.inl ⟨by rfl, ?_⟩) (by assumption) ?_
            rotate_left
            · intro w hSw
              go_simp
              try with_reducible rfl
            (try simp only [List.getElem_toArray, List.getElem_cons_succ, List.getElem_cons_zero])
            (try simp only [Act.put, List.setIfInBounds_toArray, List.set_cons_zero, List.set_cons_succ])
            refine wpAnyH_take (i := 22) (oi := _) (v := ?_) rfl (by kernel_rfl) (by kernel_rfl) (by kernel_rfl) (fun _ _ _ h => h) (Or.inl ⟨by rfl, ?_⟩) (by assumption) ?_
            rotate_left
            · intro w hSw
              go_simp
              try with_reducible rfl
            (try simp only [List.getElem_toArray, List.getElem_cons_succ, List.getElem_cons_zero])
            (try simp only [Act.put, List.setIfInBounds_toArray, List.set_cons_zero, List.set_cons_succ])
            refine wpAnyH_take (i := 23) (oi := _) (v := ?_) rfl (by kernel_rfl) (by kernel_rfl) (by kernel_rfl) (fun _ _ _ h => h) (Or.inl ⟨by rfl, ?_⟩) (by assumption) ?_
            rotate_left
            · intro w hSw
              go_simp
              try with_reducible rfl
            (try simp only [List.getElem_toArray, List.getElem_cons_succ, List.getElem_cons_zero])
            (try simp only [Act.put, List.setIfInBounds_toArray, List.set_cons_zero, List.set_cons_succ])
            refine wpAnyH_take (i := 24) (oi := _) (v := ?_) rfl (by kernel_rfl) (by kernel_rfl) (by kernel_rfl) (fun _ _ _ h => h) (Or.inl ⟨by rfl, ?_⟩) (by assumption) ?_
            rotate_left
            · intro w hSw
              go_simp
              try with_reducible rfl
            (try simp only [List.getElem_toArray, List.getElem_cons_succ, List.getElem_cons_zero])
            (try simp only [Act.put, List.setIfInBounds_toArray, List.set_cons_zero, List.set_cons_succ])
            refine wpAnyH_take (i := 25) (oi := _) (v := ?_) rfl (by kernel_rfl) (by kernel_rfl) (by kernel_rfl) (fun _ _ _ h => h) (Or.inl ⟨by rfl, ?_⟩) (by assumption) ?_
            rotate_left
            · intro w hSw
              go_simp
              try with_reducible rfl
            (try simp only [List.getElem_toArray, List.getElem_cons_succ, List.getElem_cons_zero])
            (try simp only [Act.put, List.setIfInBounds_toArray, List.set_cons_zero, List.set_cons_succ])
            refine wpAnyH_take (i := 26) (oi := _) (v := ?_) rfl (by kernel_rfl) (by kernel_rfl) (by kernel_rfl) (fun _ _ _ h => h) (Or.inl ⟨by rfl, ?_⟩) (by assumption) ?_
            rotate_left
            · intro w hSw
              go_simp
              try with_reducible rfl
            (try simp only [List.getElem_toArray, List.getElem_cons_succ, List.getElem_cons_zero])
            (try simp only [Act.put, List.setIfInBounds_toArray, List.set_cons_zero, List.set_cons_succ])
            refine wpAnyH_take (i := 28) (oi := _) (v := ?_) rfl (by kernel_rfl) (by kernel_rfl) (by kernel_rfl) (fun _ _ _ h => h) (Or.inl ⟨by rfl, ?_⟩) (by assumption) ?_
            rotate_left
            · intro w hSw
              go_simp
              try with_reducible rfl
            (try simp only [List.getElem_toArray, List.getElem_cons_succ, List.getElem_cons_zero])
            (try simp only [Act.put, List.setIfInBounds_toArray, List.set_cons_zero, List.set_cons_succ])
            refine wpAnyH_ready (rs := [27]) (by kernel_rfl) (by simp) ?_
            refine AllReadyH.cons (o := _) rfl (fun K hK => ?_) AllReadyH.nil
            go_simp
            refine (LX.out _).mono ?_
            rintro e wn ⟨rfl, bn⟩
            have X := Lib.hid (XSt.below (by first | exact X.out | exact X.out.drew) bn)
            have d0 := X.out.bx.cell 0
            have d1 := X.out.bx.cell 1
            have d2 := X.out.st.b9.cell 0
            have d3 := X.out.st.b7.cell 1
            have d4 := X.out.st.b4.cell 0
            have d5 := X.out.st.b10.cell 0
            have d6 := X.out.st.b10.frozen
            simp at d0 d1 d2 d3 d4 d5
            clear bn
            (try go_wp2_with fail)
            refine hK.out _ _ ?_ (fun hHeld => ?_)
            · ((try dsimp only); go_keep)
            clear hK K
            (try simp only [List.getElem_toArray, List.getElem_cons_succ, List.getElem_cons_zero])
            (try simp only [Act.put, List.setIfInBounds_toArray, List.set_cons_zero, List.set_cons_succ])
            refine wpAnyH_take (i := 29) (oi := _) (v := ?_) rfl (by kernel_rfl) (by kernel_rfl) (by kernel_rfl) (fun _ _ _ h => h) (Or.inl ⟨by rfl, ?_⟩) (by assumption) ?_
            rotate_left
            · intro w hSw
              go_simp
              try with_reducible rfl
            (try simp only [List.getElem_toArray, List.getElem_cons_succ, List.getElem_cons_zero])
            (try simp only [Act.put, List.setIfInBounds_toArray, List.set_cons_zero, List.set_cons_succ])
            refine wpAnyH_take (i := 30) (oi := _) (v := ?_) rfl (by kernel_rfl) (by kernel_rfl) (by kernel_rfl) (fun _ _ _ h => h) (Or.inl ⟨by rfl, ?_⟩) (by assumption) ?_
            rotate_left
            · intro w hSw
              go_simp
              try with_reducible rfl
            (try simp only [List.getElem_toArray, List.getElem_cons_succ, List.getElem_cons_zero])
            (try simp only [Act.put, List.setIfInBounds_toArray, List.set_cons_zero, List.set_cons_succ])
            refine wpAnyH_take (i := 31) (oi := _) (v := ?_) rfl (by kernel_rfl) (by kernel_rfl) (by kernel_rfl) (fun _ _ _ h => h) (Or.inl ⟨by rfl, ?_⟩) (by assumption) ?_
            rotate_left
            · intro w hSw
              go_simp
              try with_reducible rfl
            (try simp only [List.getElem_toArray, List.getElem_cons_succ, List.getElem_cons_zero])
            (try simp only [Act.put, List.setIfInBounds_toArray, List.set_cons_zero, List.set_cons_succ])
            refine wpAnyH_take (i := 32) (oi := _) (v := ?_) rfl (by kernel_rfl) (by kernel_rfl) (by kernel_rfl) (fun _ _ _ h => h) (Or.inl ⟨by rfl, ?_⟩) (by assumption) ?_
            rotate_left
            · intro w hSw
              go_simp
              try with_reducible rfl
            (try simp only [List.getElem_toArray, List.getElem_cons_succ, List.getElem_cons_zero])
            (try simp only [Act.put, List.setIfInBounds_toArray, List.set_cons_zero, List.set_cons_succ])
            refine wpAnyH_take (i := 33) (oi := _) (v := ?_) rfl (by kernel_rfl) (by kernel_rfl) (by kernel_rfl) (fun _ _ _ h => h) (Or.inl ⟨by rfl, ?_⟩) (by assumption) ?_
            rotate_left
            · intro w hSw
              go_simp
              try with_reducible rfl
            (try simp only [List.getElem_toArray, List.getElem_cons_succ, List.getElem_cons_zero])
            (try simp only [Act.put, List.setIfInBounds_toArray, List.set_cons_zero, List.set_cons_succ])
            refine wpAnyH_take (i := 35) (oi := _) (v := ?_) rfl (by kernel_rfl) (by kernel_rfl) (by kernel_rfl) (fun _ _ _ h => h) (Or.inl ⟨by rfl, ?_⟩) (by assumption) ?_
            rotate_left
            · intro w hSw
              go_simp
              try with_reducible rfl
            (try simp only [List.getElem_toArray, List.getElem_cons_succ, List.getElem_cons_zero])
            (try simp only [Act.put, List.setIfInBounds_toArray, List.set_cons_zero, List.set_cons_succ])
            refine wpAnyH_ready (rs := [34]) (by kernel_rfl) (by simp) ?_
            refine AllReadyH.cons (o := _) rfl (fun K hK => ?_) AllReadyH.nil
            go_simp
            refine (LX.out _).mono ?_
            rintro e wn ⟨rfl, bn⟩
            have X := Lib.hid (XSt.below (by first | exact X.out | exact X.out.drew) bn)
            have d0 := X.out.bx.cell 0
            have d1 := X.out.bx.cell 1
            have d2 := X.out.st.b9.cell 0
            have d3 := X.out.st.b7.cell 1
            have d4 := X.out.st.b4.cell 0
            have d5 := X.out.st.b10.cell 0
            have d6 := X.out.st.b10.frozen
            simp at d0 d1 d2 d3 d4 d5
            clear bn
            (try go_wp2_with fail)
            refine hK.out _ _ ?_ (fun hHeld => ?_)
            · ((try dsimp only); go_keep)
            clear hK K
            (try simp only [List.getElem_toArray, List.getElem_cons_succ, List.getElem_cons_zero])
            (try simp only [Act.put, List.setIfInBounds_toArray, List.set_cons_zero, List.set_cons_succ])
            refine wpAnyH_take (i := 36) (oi := _) (v := ?_) rfl (by kernel_rfl) (by kernel_rfl) (by kernel_rfl) (fun _ _ _ h => h) (Or.inl ⟨by rfl, ?_⟩) (by assumption) ?_
            rotate_left
            · intro w hSw
              go_simp
              try with_reducible rfl
            (try simp only [List.getElem_toArray, List.getElem_cons_succ, List.getElem_cons_zero])
            (try simp only [Act.put, List.setIfInBounds_toArray, List.set_cons_zero, List.set_cons_succ])
            refine wpAnyH_take (i := 37) (oi := _) (v := ?_) rfl (by kernel_rfl) (by kernel_rfl) (by kernel_rfl) (fun _ _ _ h => h) (Or.inl ⟨by rfl, ?_⟩) (by assumption) ?_
            rotate_left
            · intro w hSw
              go_simp
              try with_reducible rfl
            (try simp only [List.getElem_toArray, List.getElem_cons_succ, List.getElem_cons_zero])
            (try simp only [Act.put, List.setIfInBounds_toArray, List.set_cons_zero, List.set_cons_succ])
            refine wpAnyH_ready (rs := [38]) (by kernel_rfl) (by simp) ?_
            refine AllReadyH.cons (o := _) rfl (fun K hK => ?_) AllReadyH.nil
            go_simp
            refine hK.out _ _ ?_ (fun hHeld => ?_)
            · ((try dsimp only); go_keep)
            clear hK K
            (try simp only [List.getElem_toArray, List.getElem_cons_succ, List.getElem_cons_zero])
            (try simp only [Act.put, List.setIfInBounds_toArray, List.set_cons_zero, List.set_cons_succ])
            refine wpAnyH_done (by kernel_rfl) ?_ _
            have X := Lib.hid (X.out.s10 true)
            revert X
            generalize wn.setCell ⟨g8 + 1 + 1, 0, Option.none⟩ (.bool true) = wr
            intro X
            have d0 := X.out.bx.cell 0
            have d1 := X.out.bx.cell 1
            have d2 := X.out.st.b9.cell 0
            have d7 := X.out.st.b8.cell 0
            have d8 := X.out.st.b5.cell 0
            have d5 := X.out.st.b10.cell 0
            have f9 := X.out.st.b9.frozen
            have f8 := X.out.st.b8.frozen
            have f6 := X.out.st.b6.frozen
            have d6 := X.out.st.b6.cell 0
            simp at d0 d1 d2 d7 d8 d5 d6
            by_cases hm2 : k + 1 = m
            · have hmb : ((k + 1 : Int) == m) = true := by simpa using hm2
              have hmd : decide (k + 1 = m) = true := decide_eq_true hm2
              have HM := Lib.hid hm2
              clear hm2
              gi_wp2_with fail
              (refine ⟨trivial, ?_⟩; gi_at_call 12; refine (CallsIn.inRound l (callsIn_wide.2 (known_c _))).mono ?_; rintro e w9 ⟨rfl, b9⟩; have X9 := Lib.hid (((X.out.s9 xh).s8 (k + 1)).below b9); have f69 := X9.out.st.b6.frozen; have d69 := X9.out.st.b6.cell 0; have d59 := X9.out.st.b10.cell 0; (simp at d69 d59); clear b9)
              gi_wp2
              have Y := X9.out.s6 true
              exact ⟨Y.ko.from _, rfl, true, fun _ => rfl, Y.st.b6, Y.st.bel⟩
            · have hmb : ((k + 1 : Int) == m) = false := by simpa using hm2
              have hmd : decide (k + 1 = m) = false := decide_eq_false hm2
              clear hm2
              gi_wp2
              have Y := (X.out.s9 xh).s8 (k + 1)
              refine ⟨Y.ko.from _, Y.k2, Nat.le_trans hNW Y.ko.size, ?_⟩
              rw [HPL.out, HE.out]
              exact Y.st
        · have h1d : decide (xl = e) = false := decide_eq_false h1
          have h1b : (xl == e) = false := by simpa using h1
          have H1 := Lib.hid h1
          clear h1
          gi_wp2_with fail
          refine Round.round_held (S := (fun w' => w'.cell? ⟨Bx, 0, Option.none⟩ = some (.int .i64 xl) ∧ w'.cell? ⟨Bx, 1, Option.none⟩ = some (.int .i64 xh) ∧ w'.cell? ⟨g8 + 1, 0, Option.none⟩ = some (.int .i64 e) ∧ w'.cell? ⟨g7, 1, Option.none⟩ = some (.int .i64 p.hi) ∧ w'.cell? ⟨w.heap.size + 1, 0, Option.none⟩ = some (.int .i64 z))) (by rintro ⟨_, _, h⟩; exact h) (by kernel_rfl) (by kernel_rfl) ?_ (fun hHeld => ?_)
          · ((try dsimp only); go_keep)
          refine wpAnyH_ready (rs := [0]) (by kernel_rfl) (by simp) ?_
          refine AllReadyH.cons (o := _) rfl (fun K hK => ?_) AllReadyH.nil
          go_wp2_with fail
          refine hK.out _ _ ?_ (fun hHeld => ?_)
          · ((try dsimp only); go_keep)
          clear hK K
          (try simp only [List.getElem_toArray, List.getElem_cons_succ, List.getElem_cons_zero])
          (try simp only [Act.put, List.setIfInBounds_toArray, List.set_cons_zero, List.set_cons_succ])
          refine wpAnyH_take (i := 1) (oi := _) (v := ?_) rfl (by kernel_rfl) (by kernel_rfl) (by kernel_rfl) (fun _ _ _ h => h) (Or.inl ⟨by rfl, ?_⟩) (by assumption) ?_
          rotate_left
          · intro w hSw
            go_simp
            try with_reducible rfl
          (try simp only [List.getElem_toArray, List.getElem_cons_succ, List.getElem_cons_zero])
          (try simp only [Act.put, List.setIfInBounds_toArray, List.set_cons_zero, List.set_cons_succ])
          refine wpAnyH_take (i := 2) (oi := _) (v := ?_) rfl (by kernel_rfl) (by kernel_rfl) (by kernel_rfl) (fun _ _ _ h => h) (Or.inl ⟨by rfl, ?_⟩) (by assumption) ?_
          rotate_left
          · intro w hSw
            go_simp
            try with_reducible rfl
          (try simp only [List.getElem_toArray, List.getElem_cons_succ, List.getElem_cons_zero])
          (try simp only [Act.put, List.setIfInBounds_toArray, List.set_cons_zero, List.set_cons_succ])
          refine wpAnyH_take (i := 3) (oi := _) (v := ?_) rfl (by kernel_rfl) (by kernel_rfl) (by kernel_rfl) (fun _ _ _ h => h) (Or.inl ⟨by rfl, ?_⟩) (by assumption) ?_
          rotate_left
          · intro w hSw
            go_simp
            try with_reducible rfl
          (try simp only [List.getElem_toArray, List.getElem_cons_succ, List.getElem_cons_zero])
          (try simp only [Act.put, List.setIfInBounds_toArray, List.set_cons_zero, List.set_cons_succ])
          refine wpAnyH_take (i := 4) (oi := _) (v := ?_) rfl (by kernel_rfl) (by kernel_rfl) (by kernel_rfl) (fun _ _ _ h => h) (Or.inl ⟨by rfl, ?_⟩) (by assumption) ?_
          rotate_left
          · intro w hSw
            go_simp
            try with_reducible rfl
          (try simp only [List.getElem_toArray, List.getElem_cons_succ, List.getElem_cons_zero])
          (try simp only [Act.put, List.setIfInBounds_toArray, List.set_cons_zero, List.set_cons_succ])
          refine wpAnyH_take (i := 5) (oi := _) (v := ?_) rfl (by kernel_rfl) (by kernel_rfl) (by kernel_rfl) (fun _ _ _ h => h) (Or.inl ⟨by rfl, ?_⟩) (by assumption) ?_
          rotate_left
          · intro w hSw
            go_simp
            try with_reducible rfl
          (try simp only [List.getElem_toArray, List.getElem_cons_succ, List.getElem_cons_zero])
          (try simp only [Act.put, List.setIfInBounds_toArray, List.set_cons_zero, List.set_cons_succ])
          refine wpAnyH_take (i := 6) (oi := _) (v := ?_) rfl (by kernel_rfl) (by kernel_rfl) (by kernel_rfl) (fun _ _ _ h => h) (Or.inl ⟨by rfl, ?_⟩) (by assumption) ?_
          rotate_left
          · intro w hSw
            go_simp
            try with_reducible rfl
          (try simp only [List.getElem_toArray, List.getElem_cons_succ, List.getElem_cons_zero])
          (try simp only [Act.put, List.setIfInBounds_toArray, List.set_cons_zero, List.set_cons_succ])
          refine wpAnyH_take (i := 7) (oi := _) (v := ?_) rfl (by kernel_rfl) (by kernel_rfl) (by kernel_rfl) (fun _ _ _ h => h) (Or.inl ⟨by rfl, ?_⟩) (by assumption) ?_
          rotate_left
          · intro w hSw
            go_simp
            try with_reducible rfl
          (try simp only [List.getElem_toArray, List.getElem_cons_succ, List.getElem_cons_zero])
          (try simp only [Act.put, List.setIfInBounds_toArray, List.set_cons_zero, List.set_cons_succ])
          refine wpAnyH_take (i := 8) (oi := _) (v := undef) rfl (by kernel_rfl) (by kernel_rfl) (by kernel_rfl) (fun _ _ _ h => h) (Or.inr ⟨by rfl, rfl⟩) (by assumption) ?_
          (try simp only [List.getElem_toArray, List.getElem_cons_succ, List.getElem_cons_zero])
          (try simp only [Act.put, List.setIfInBounds_toArray, List.set_cons_zero, List.set_cons_succ])
          refine wpAnyH_take (i := 9) (oi := _) (v := undef) rfl (by kernel_rfl) (by kernel_rfl) (by kernel_rfl) (fun _ _ _ h => h) (Or.inr ⟨by rfl, rfl⟩) (by assumption) ?_
          (try simp only [List.getElem_toArray, List.getElem_cons_succ, List.getElem_cons_zero])
          (try simp only [Act.put, List.setIfInBounds_toArray, List.set_cons_zero, List.set_cons_succ])
          refine wpAnyH_take (i := 10) (oi := _) (v := undef) rfl (by kernel_rfl) (by kernel_rfl) (by kernel_rfl) (fun _ _ _ h => h) (Or.inr ⟨by rfl, rfl⟩) (by assumption) ?_
          (try simp only [List.getElem_toArray, List.getElem_cons_succ, List.getElem_cons_zero])
          (try simp only [Act.put, List.setIfInBounds_toArray, List.set_cons_zero, List.set_cons_succ])
          refine wpAnyH_take (i := 11) (oi := _) (v := ?_) rfl (by kernel_rfl) (by kernel_rfl) (by kernel_rfl) (fun _ _ _ h => h) (Or.inl ⟨by rfl, ?_⟩) (by assumption) ?_
          rotate_left
          · intro w hSw
            go_simp
            try with_reducible rfl
          (try simp only [List.getElem_toArray, List.getElem_cons_succ, List.getElem_cons_zero])
          (try simp only [Act.put, List.setIfInBounds_toArray, List.set_cons_zero, List.set_cons_succ])
          refine wpAnyH_take (i := 12) (oi := _) (v := ?_) rfl (by kernel_rfl) (by kernel_rfl) (by kernel_rfl) (fun _ _ _ h => h) (Or.inl ⟨by rfl, ?_⟩) (by assumption) ?_
          rotate_left
          · intro w hSw
            go_simp
            try with_reducible rfl
          (try simp only [List.getElem_toArray, List.getElem_cons_succ, List.getElem_cons_zero])
          (try simp only [Act.put, List.setIfInBounds_toArray, List.set_cons_zero, List.set_cons_succ])
          refine wpAnyH_take (i := 13) (oi := _) (v := undef) rfl (by kernel_rfl) (by kernel_rfl) (by kernel_rfl) (fun _ _ _ h => h) (Or.inr ⟨by rfl, rfl⟩) (by assumption) ?_
          (try simp only [List.getElem_toArray, List.getElem_cons_succ, List.getElem_cons_zero])
          (try simp only [Act.put, List.setIfInBounds_toArray, List.set_cons_zero, List.set_cons_succ])
          refine wpAnyH_take (i := 14) (oi := _) (v := undef) rfl (by kernel_rfl) (by kernel_rfl) (by kernel_rfl) (fun _ _ _ h => h) (Or.inr ⟨by rfl, rfl⟩) (by assumption) ?_
          (try simp only [List.getElem_toArray, List.getElem_cons_succ, List.getElem_cons_zero])
          (try simp only [Act.put, List.setIfInBounds_toArray, List.set_cons_zero, List.set_cons_succ])
          refine wpAnyH_take (i := 15) (oi := _) (v := undef) rfl (by kernel_rfl) (by kernel_rfl) (by kernel_rfl) (fun _ _ _ h => h) (Or.inr ⟨by rfl, rfl⟩) (by assumption) ?_
          (try simp only [List.getElem_toArray, List.getElem_cons_succ, List.getElem_cons_zero])
          (try simp only [Act.put, List.setIfInBounds_toArray, List.set_cons_zero, List.set_cons_succ])
          refine wpAnyH_take (i := 16) (oi := _) (v := undef) rfl (by kernel_rfl) (by kernel_rfl) (by kernel_rfl) (fun _ _ _ h => h) (Or.inr ⟨by rfl, rfl⟩) (by assumption) ?_
          (try simp only [List.getElem_toArray, List.getElem_cons_succ, List.getElem_cons_zero])
          (try simp only [Act.put, List.setIfInBounds_toArray, List.set_cons_zero, List.set_cons_succ])
          refine wpAnyH_take (i := 17) (oi := _) (v := undef) rfl (by kernel_rfl) (by kernel_rfl) (by kernel_rfl) (fun _ _ _ h => h) (Or.inr ⟨by rfl, rfl⟩) (by assumption) ?_
          (try simp only [List.getElem_toArray, List.getElem_cons_succ, List.getElem_cons_zero])
          (try simp only [Act.put, List.setIfInBounds_toArray, List.set_cons_zero, List.set_cons_succ])
          refine wpAnyH_take (i := 18) (oi := _) (v := ?_) rfl (by kernel_rfl) (by kernel_rfl) (by kernel_rfl) (fun _ _ _ h => h) (Or.inl ⟨by rfl, ?_⟩) (by assumption) ?_
          rotate_left
          · intro w hSw
            go_simp
            try with_reducible rfl
          (try simp only [List.getElem_toArray, List.getElem_cons_succ, List.getElem_cons_zero])
          (try simp only [Act.put, List.setIfInBounds_toArray, List.set_cons_zero, List.set_cons_succ])
          refine wpAnyH_take (i := 19) (oi := _) (v := ?_) rfl (by kernel_rfl) (by kernel_rfl) (by kernel_rfl) (fun _ _ _ h => h) (Or.inl ⟨by rfl, ?_⟩) (by assumption) ?_
          rotate_left
          · intro w hSw
            go_simp
            try with_reducible rfl
          (try simp only [List.getElem_toArray, List.getElem_cons_succ, List.getElem_cons_zero])
          (try simp only [Act.put, List.setIfInBounds_toArray, List.set_cons_zero, List.set_cons_succ])
          refine wpAnyH_take (i := 20) (oi := _) (v := undef) rfl (by kernel_rfl) (by kernel_rfl) (by kernel_rfl) (fun _ _ _ h => h) (Or.inr ⟨by rfl, rfl⟩) (by assumption) ?_
          (try simp only [List.getElem_toArray, List.getElem_cons_succ, List.getElem_cons_zero])
          (try simp only [Act.put, List.setIfInBounds_toArray, List.set_cons_zero, List.set_cons_succ])
          refine wpAnyH_take (i := 21) (oi := _) (v := undef) rfl (by kernel_rfl) (by kernel_rfl) (by kernel_rfl) (fun _ _ _ h => h) (Or.inr ⟨by rfl, rfl⟩) (by assumption) ?_
          (try simp only [List.getElem_toArray, List.getElem_cons_succ, List.getElem_cons_zero])
          (try simp only [Act.put, List.setIfInBounds_toArray, List.set_cons_zero, List.set_cons_succ])
          refine wpAnyH_take (i := 22) (oi := _) (v := undef) rfl (by kernel_rfl) (by kernel_rfl) (by kernel_rfl) (fun _ _ _ h => h) (Or.inr ⟨by rfl, rfl⟩) (by assumption) ?_
          (try simp only [List.getElem_toArray, List.getElem_cons_succ, List.getElem_cons_zero])
          (try simp only [Act.put, List.setIfInBounds_toArray, List.set_cons_zero, List.set_cons_succ])
          refine wpAnyH_take (i := 23) (oi := _) (v := undef) rfl (by kernel_rfl) (by kernel_rfl) (by kernel_rfl) (fun _ _ _ h => h) (Or.inr ⟨by rfl, rfl⟩) (by assumption) ?_
          (try simp only [List.getElem_toArray, List.getElem_cons_succ, List.getElem_cons_zero])
          (try simp only [Act.put, List.setIfInBounds_toArray, List.set_cons_zero, List.set_cons_succ])
          refine wpAnyH_take (i := 24) (oi := _) (v := undef) rfl (by kernel_rfl) (by kernel_rfl) (by kernel_rfl) (fun _ _ _ h => h) (Or.inr ⟨by rfl, rfl⟩) (by assumption) ?_
          (try simp only [List.getElem_toArray, List.getElem_cons_succ, List.getElem_cons_zero])
          (try simp only [Act.put, List.setIfInBounds_toArray, List.set_cons_zero, List.set_cons_succ])
          refine wpAnyH_take (i := 25) (oi := _) (v := undef) rfl (by kernel_rfl) (by kernel_rfl) (by kernel_rfl) (fun _ _ _ h => h) (Or.inr ⟨by rfl, rfl⟩) (by assumption) ?_
          (try simp only [List.getElem_toArray, List.getElem_cons_succ, List.getElem_cons_zero])
          (try simp only [Act.put, List.setIfInBounds_toArray, List.set_cons_zero, List.set_cons_succ])
          refine wpAnyH_take (i := 26) (oi := _) (v := undef) rfl (by kernel_rfl) (by kernel_rfl) (by kernel_rfl) (fun _ _ _ h => h) (Or.inr ⟨by rfl, rfl⟩) (by assumption) ?_
          (try simp only [List.getElem_toArray, List.getElem_cons_succ, List.getElem_cons_zero])
          (try simp only [Act.put, List.setIfInBounds_toArray, List.set_cons_zero, List.set_cons_succ])
          refine wpAnyH_take (i := 28) (oi := _) (v := undef) rfl (by kernel_rfl) (by kernel_rfl) (by kernel_rfl) (fun _ _ _ h => h) (Or.inr ⟨by rfl, rfl⟩) (by assumption) ?_
          (try simp only [List.getElem_toArray, List.getElem_cons_succ, List.getElem_cons_zero])
          (try simp only [Act.put, List.setIfInBounds_toArray, List.set_cons_zero, List.set_cons_succ])
          refine wpAnyH_take (i := 27) (oi := _) (v := undef) rfl (by kernel_rfl) (by kernel_rfl) (by kernel_rfl) (fun _ _ _ h => h) (Or.inr ⟨by rfl, rfl⟩) (by assumption) ?_
          (try simp only [List.getElem_toArray, List.getElem_cons_succ, List.getElem_cons_zero])
          (try simp only [Act.put, List.setIfInBounds_toArray, List.set_cons_zero, List.set_cons_succ])
          refine wpAnyH_take (i := 29) (oi := _) (v := undef) rfl (by kernel_rfl) (by kernel_rfl) (by kernel_rfl) (fun _ _ _ h => h) (Or.inr ⟨by rfl, rfl⟩) (by assumption) ?_
          (try simp only [List.getElem_toArray, List.getElem_cons_succ, List.getElem_cons_zero])
          (try simp only [Act.put, List.setIfInBounds_toArray, List.set_cons_zero, List.set_cons_succ])
          refine wpAnyH_take (i := 30) (oi := _) (v := undef) rfl (by kernel_rfl) (by kernel_rfl) (by kernel_rfl) (fun _ _ _ h => h) (Or.inr ⟨by rfl, rfl⟩) (by assumption) ?_
          (try simp only [List.getElem_toArray, List.getElem_cons_succ, List.getElem_cons_zero])
          (try simp only [Act.put, List.setIfInBounds_toArray, List.set_cons_zero, List.set_cons_succ])
          refine wpAnyH_take (i := 31) (oi := _) (v := ?_) rfl (by kernel_rfl) (by kernel_rfl) (by kernel_rfl) (fun _ _ _ h => h) (Or.inl ⟨by rfl, ?_⟩) (by assumption) ?_
          rotate_left
          · intro w hSw
            go_simp
            try with_reducible rfl
          (try simp only [List.getElem_toArray, List.getElem_cons_succ, List.getElem_cons_zero])
          (try simp only [Act.put, List.setIfInBounds_toArray, List.set_cons_zero, List.set_cons_succ])
          refine wpAnyH_take (i := 32) (oi := _) (v := ?_) rfl (by kernel_rfl) (by kernel_rfl) (by kernel_rfl) (fun _ _ _ h => h) (Or.inl ⟨by rfl, ?_⟩) (by assumption) ?_
          rotate_left
          · intro w hSw
            go_simp
            try with_reducible rfl
          (try simp only [List.getElem_toArray, List.getElem_cons_succ, List.getElem_cons_zero])
          (try simp only [Act.put, List.setIfInBounds_toArray, List.set_cons_zero, List.set_cons_succ])
          refine wpAnyH_take (i := 33) (oi := _) (v := undef) rfl (by kernel_rfl) (by kernel_rfl) (by kernel_rfl) (fun _ _ _ h => h) (Or.inr ⟨by rfl, rfl⟩) (by assumption) ?_
          (try simp only [List.getElem_toArray, List.getElem_cons_succ, List.getElem_cons_zero])
          (try simp only [Act.put, List.setIfInBounds_toArray, List.set_cons_zero, List.set_cons_succ])
          refine wpAnyH_take (i := 35) (oi := _) (v := undef) rfl (by kernel_rfl) (by kernel_rfl) (by kernel_rfl) (fun _ _ _ h => h) (Or.inr ⟨by rfl, rfl⟩) (by assumption) ?_
          (try simp only [List.getElem_toArray, List.getElem_cons_succ, List.getElem_cons_zero])
          (try simp only [Act.put, List.setIfInBounds_toArray, List.set_cons_zero, List.set_cons_succ])
          refine wpAnyH_take (i := 34) (oi := _) (v := undef) rfl (by kernel_rfl) (by kernel_rfl) (by kernel_rfl) (fun _ _ _ h => h) (Or.inr ⟨by rfl, rfl⟩) (by assumption) ?_
          (try simp only [List.getElem_toArray, List.getElem_cons_succ, List.getElem_cons_zero])
          (try simp only [Act.put, List.setIfInBounds_toArray, List.set_cons_zero, List.set_cons_succ])
          refine wpAnyH_take (i := 36) (oi := _) (v := undef) rfl (by kernel_rfl) (by kernel_rfl) (by kernel_rfl) (fun _ _ _ h => h) (Or.inr ⟨by rfl, rfl⟩) (by assumption) ?_
          (try simp only [List.getElem_toArray, List.getElem_cons_succ, List.getElem_cons_zero])
          (try simp only [Act.put, List.setIfInBounds_toArray, List.set_cons_zero, List.set_cons_succ])
          refine wpAnyH_take (i := 37) (oi := _) (v := ?_) rfl (by kernel_rfl) (by kernel_rfl) (by kernel_rfl) (fun _ _ _ h => h) (Or.inl ⟨by rfl, ?_⟩) (by assumption) ?_
          rotate_left
          · intro w hSw
            go_simp
            try with_reducible rfl
          (try simp only [List.getElem_toArray, List.getElem_cons_succ, List.getElem_cons_zero])
          (try simp only [Act.put, List.setIfInBounds_toArray, List.set_cons_zero, List.set_cons_succ])
          refine wpAnyH_ready (rs := [38]) (by kernel_rfl) (by simp) ?_
          refine AllReadyH.cons (o := _) rfl (fun K hK => ?_) AllReadyH.nil
          go_simp
          refine hK.out _ _ ?_ (fun hHeld => ?_)
          · ((try dsimp only); go_keep)
          clear hK K
          (try simp only [List.getElem_toArray, List.getElem_cons_succ, List.getElem_cons_zero])
          (try simp only [Act.put, List.setIfInBounds_toArray, List.set_cons_zero, List.set_cons_succ])
          refine wpAnyH_done (by kernel_rfl) ?_ _
          have X := Lib.hid (X.out.s10 false).drew
          revert X
          generalize (W.setCell ⟨g8 + 1 + 1, 0, Option.none⟩ (.bool false)).drew = wr
          intro X
          have d0 := X.out.bx.cell 0
          have d1 := X.out.bx.cell 1
          have d2 := X.out.st.b9.cell 0
          have d7 := X.out.st.b8.cell 0
          have d8 := X.out.st.b5.cell 0
          have d5 := X.out.st.b10.cell 0
          have f9 := X.out.st.b9.frozen
          have f8 := X.out.st.b8.frozen
          have f6 := X.out.st.b6.frozen
          have d6 := X.out.st.b6.cell 0
          simp at d0 d1 d2 d7 d8 d5 d6
          gi_wp2
          refine ⟨trivial, ?_⟩
          gi_wp2
          have Y := ((X.out.s9 xh).s8 (k + 1)).s6 false
          exact ⟨Y.ko.from _, rfl, false, fun hc => absurd (HC.out.1 hc).2 H1.out, Y.st.b6, Y.st.bel⟩
      case done =>
        rintro D ys W hD ⟨hC, hW⟩ ⟨hN, hL⟩ hK
        have HL := Lib.hid hL
        have HK := Lib.hid hK
        have z0 := hL.b4.cell 0
        have k0 := hL.b8.cell 0
        have e0 := hL.b9.cell 0
        have q1 := hL.b7.cell 1
        have f6 := hL.b6.frozen
        have r0 := hL.b6.cell 0
        simp at z0 k0 e0 q1 r0
        by_cases hz0 : 0 < z
        · have hend := hW.1 hz0
          rw [hend] at e0
          clear hW hC hL hK hend k0
          go_wp2_with fail
          refine (known_c W).mono ?_
          rintro e w9 ⟨rfl, b9⟩
          have L9 := Lib.hid (HL.out.below b9)
          have K9 := Lib.hid ((b9.block D (Array.getElem?_eq_some_iff.1 HK.out).1).trans HK.out)
          have f69 := L9.out.b6.frozen
          have d69 := L9.out.b6.cell 0
          simp at d69
          clear b9
          go_wp2
          have hH := L9.out.b6.lt
          have hx := L9.out.bel.size
          have Y6 := (L9.out.b6.set_ 0 (.bool true)).eq (cs' := #[.bool true]) (by simp)
          have YB := L9.out.bel.setCell (p := ⟨w.heap.size + 1 + 1 + 1, 0, Option.none⟩) (by simp only; omega) (.bool true)
          have YK : (w9.setCell ⟨w.heap.size + 1 + 1 + 1, 0, Option.none⟩ (.bool true)).heap[D]? = some (.deferred (some [])) := (Below.heap_setCell _ _ _ D (by simp only; omega)).trans K9.out
          refine ⟨by simp, .inl ⟨_, _, rfl, run_takeDeferred YK, ?_⟩⟩
          have Z6 := (blk_own Y6 (grownBy_putObj' _ D (.deferred Option.none)) (fun r e => by cases e; exact ⟨_, YK, rfl⟩)).cell 0
          simp at Z6
          exact ⟨_, by simp [results, Try.results6, go_sem, Z6], rfl, YB.trans (belowK_b (w := w) (Nat.le_refl _) _ D _ _ (by omega) YK rfl rfl)⟩
        · have hnil := hW.2 hz0
          rw [hnil] at k0
          simp at k0
          have hz1 : z < 1 := by omega
          clear hW hC hL hK hnil e0 hz0
          go_wp2_with fail
          refine (known_c W).mono ?_
          rintro e w9 ⟨rfl, b9⟩
          have L9 := Lib.hid (HL.out.below b9)
          have K9 := Lib.hid ((b9.block D (Array.getElem?_eq_some_iff.1 HK.out).1).trans HK.out)
          have f69 := L9.out.b6.frozen
          have d69 := L9.out.b6.cell 0
          simp at d69
          clear b9
          go_wp2
          have hH := L9.out.b6.lt
          have hx := L9.out.bel.size
          have Y6 := (L9.out.b6.set_ 0 (.bool true)).eq (cs' := #[.bool true]) (by simp)
          have YB := L9.out.bel.setCell (p := ⟨w.heap.size + 1 + 1 + 1, 0, Option.none⟩) (by simp only; omega) (.bool true)
          have YK : (w9.setCell ⟨w.heap.size + 1 + 1 + 1, 0, Option.none⟩ (.bool true)).heap[D]? = some (.deferred (some [])) := (Below.heap_setCell _ _ _ D (by simp only; omega)).trans K9.out
          refine ⟨by simp, .inl ⟨_, _, rfl, run_takeDeferred YK, ?_⟩⟩
          have Z6 := (blk_own Y6 (grownBy_putObj' _ D (.deferred Option.none)) (fun r e => by cases e; exact ⟨_, YK, rfl⟩)).cell 0
          simp at Z6
          exact ⟨_, by simp [results, Try.results6, go_sem, Z6], rfl, YB.trans (belowK_b (w := w) (Nat.le_refl _) _ D _ _ (by omega) YK rfl rfl)⟩
      case stop =>
        rintro D c pre W hD hC ⟨rfl, b, hb, h6, hB⟩ hK
        rw [hb hC] at h6
        have YK := hK
        have Y6 := h6
        clear hb h6 hC
        have hs := hB.size
        have HB := Lib.hid hB
        have Z6 := (blk_own Y6 (grownBy_putObj' _ D (.deferred Option.none)) (fun r e => by cases e; exact ⟨_, YK, rfl⟩)).cell 0
        simp at Z6
        have HZ := Lib.hid Z6
        have HK := Lib.hid YK
        clear Z6 YK Y6 hK hB
        gi_wp2
        refine ⟨by simp, .inl ⟨_, _, rfl, run_takeDeferred HK.out, ?_⟩⟩
        have Z6 := HZ.out
        exact ⟨_, by simp [results, Try.results6, go_sem, Z6], rfl, HB.out.trans (belowK_b (w := w) (Nat.le_refl _) _ D _ _ (by omega) HK.out rfl rfl)⟩
end Go.Proofs.Ytfbjmaajdblbfaa.Spans
