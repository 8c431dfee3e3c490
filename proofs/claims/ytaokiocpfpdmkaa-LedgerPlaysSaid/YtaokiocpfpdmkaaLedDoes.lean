/- Chapter 19 (ledger): an operation with both (does). -/
import Derived.Test.YtaokiocpfpdmkaaLedStep
import Derived.Deep.RegionHeld3
import Derived.Deep.DrawnRows
import Derived.BigRegion
set_option linter.unusedSimpArgs false
set_option linter.unusedVariables false
attribute [local go_sem ↓] Go.wp_at_zero Go.wp_at_succ
namespace Go.Proofs.Ytaokiocpfpdmkaa.Led
open Go.BigFrame Go.RowKit Go.OpenShut Go.Proofs.Ytaokiocpfpdmkaa.Aid Go.Proofs.Ytaokiocpfpdmkaa.Spans
/-- What comes of an operation: both tell the same. -/
def Both (W : World) (w : World) (g : Nat) (v u : Value) (e : Ending) (w' : World) : Prop :=
  ∃ A n c v' L', e = .returned (.tuple #[byVal L' (.slice A n c), .bool true]) ∧ Pair W w' g v' (.slice A n c) L' L' ∧ Kept w w' g v ∧ (∀ k, v'.ownBlock = some k → v.ownBlock = some k ∨ w.heap.size ≤ k) ∧ (∀ k, (Value.slice A n c).ownBlock = some k → u.ownBlock = some k ∨ w.heap.size ≤ k)
def opVal (k a b : Int) (s : Span) : Value := .agg #[.int .u8 k, .int .i64 a, .int .i64 b, .int .i64 s.lo, .int .i64 s.hi]
/-- The boxes of an operation with both. -/
structure DBox (W0 W : World) (L : Led) (u : Value) (k a b : Int) (s : Span) : Prop where
  b0 : Blk W W0.heap.size 63 (cells L u)
  b1 : Blk W (W0.heap.size + 1) 52 #[.int .u8 k, .int .i64 a, .int .i64 b, .int .i64 s.lo, .int .i64 s.hi]
  b2 : Blk W (W0.heap.size + 1 + 1) 63 #[.bool false, .int .i64 0, .int .i64 0, .slice Option.none 0 0, .bool false]
  bel : Below W0.heap.size W0 W
theorem dbox_new (W : World) (L : Led) (u : Value) (k a b : Int) (s : Span) : DBox W (((W.alloc (.cells (cells L u) 63)).alloc (.cells #[.int .u8 k, .int .i64 a, .int .i64 b, .int .i64 s.lo, .int .i64 s.hi] 52)).alloc (.cells #[.bool false, .int .i64 0, .int .i64 0, .slice Option.none 0 0, .bool false] 63)) L u k a b s := by
  have h1 := Blk.new (W.alloc (.cells (cells L u) 63)) 52 #[.int .u8 k, .int .i64 a, .int .i64 b, .int .i64 s.lo, .int .i64 s.hi]
  have h2 := Blk.new ((W.alloc (.cells (cells L u) 63)).alloc (.cells #[.int .u8 k, .int .i64 a, .int .i64 b, .int .i64 s.lo, .int .i64 s.hi] 52)) 63 #[.bool false, .int .i64 0, .int .i64 0, .slice Option.none 0 0, .bool false]
  refine ⟨((Blk.new W 63 _).alloc _).alloc _, ?_, ?_, (((Below.refl _ W).alloc (Nat.le_refl _) _).alloc (by simp) _).alloc (by simp; omega) _⟩
  · have := h1.alloc (.cells #[.bool false, .int .i64 0, .int .i64 0, .slice Option.none 0 0, .bool false] 63)
    simpa using this
  · simpa using h2
theorem DBox.below {W0 W W' : World} {L : Led} {u : Value} {k a b : Int} {s : Span} (h : DBox W0 W L u k a b s) (hb : Below W.heap.size W W') : DBox W0 W' L u k a b s :=
  ⟨h.b0.below hb h.b0.lt, h.b1.below hb h.b1.lt, h.b2.below hb h.b2.lt, below_then h.bel h.bel.size hb⟩
theorem kept_cell {w w' : World} {g : Nat} {v : Value} (hk : Kept w w' g v) {x : Nat} (o : Nat) (h1 : x < w.heap.size) (h2 : x ≠ g) (h3 : v.ownBlock ≠ some x) : w'.cell? ⟨x, o, Option.none⟩ = w.cell? ⟨x, o, Option.none⟩ := by
  unfold World.cell?
  have := hk.block x h1 h2 h3
  simp only [this]
theorem kept_frozen {w w' : World} {g : Nat} {v : Value} (hk : Kept w w' g v) {x : Nat} (o : Nat) (h1 : x < w.heap.size) (h2 : x ≠ g) (h3 : v.ownBlock ≠ some x) : w'.frozen? ⟨x, o, Option.none⟩ = w.frozen? ⟨x, o, Option.none⟩ := by
  unfold World.frozen?
  have := hk.block x h1 h2 h3
  simp only [this]
theorem kept_new {w w' : World} {g x : Nat} {v : Value} (h : Kept w w' g v) (hx : w.heap.size ≤ x) (i : Nat) (u : Value) : Kept w (w'.setCell ⟨x, i, Option.none⟩ u) g v :=
  ⟨h.os, h.tape, h.output, by simpa [World.setCell] using h.size, fun k hk h1 h2 => (Below.heap_setCell w' ⟨x, i, Option.none⟩ u k (by simp only; omega)).trans (h.block k hk h1 h2)⟩
theorem Pair.set_ {W w : World} {g x : Nat} {v u : Value} {L M : Led} (h : Pair W w g v u L M) (hx : W.heap.size ≤ x) (h1 : g ≠ x) (h2 : v.ownBlock ≠ some x) (h3 : u.ownBlock ≠ some x) (i : Nat) (z : Value) : Pair W (w.setCell ⟨x, i, Option.none⟩ z) g v u L M :=
  ⟨⟨h.st.led.far (kept_set (kept_refl w x (.slice Option.none 0 0)) i z) h1 (by simp [Value.ownBlock]) h2 (fun k hk => by simp [Value.ownBlock]), h.st.gb, h.st.vb, h.st.bel.setCell hx _⟩,
   h.row.same fun k e => Below.heap_setCell w ⟨x, i, Option.none⟩ z k (fun e2 => h3 (by rw [e, e2])), h.own⟩
/-- The ledger turns, told in full. -/
theorem Pair.does_own {w W W' : World} {g : Nat} {v r u : Value} {L L' M : Led} {e : Ending} (h : Pair w W g v u L M) (d : Does W g v r L' e W') : ∃ v', Pair w W' g v' u L' M ∧ Kept W W' g v ∧ (∀ k, v'.ownBlock = some k → v.ownBlock = some k ∨ W.heap.size ≤ k) := by
  obtain ⟨he, v', hs, hk, ho⟩ := h.st.does d
  refine ⟨v', ⟨hs, h.row.same fun k e => hk.block k (h.row.lt k e) (h.own k e).2.1 (h.own k e).2.2, fun b e => ⟨(h.own b e).1, (h.own b e).2.1, fun e2 => ?_⟩⟩, hk, ho⟩
  rcases ho b e2 with h1 | h1
  · exact (h.own b e).2.2 h1
  · have := h.row.lt b e
    omega
/-- The end of an operation: both have turned, and the boxes lie behind. -/
theorem both_end {W w w1 w2 w3 : World} {g : Nat} {v : Value} {L L' : Led} {A A' : Option Addr} {n c n' c' : Nat} {r : Value} {e : Ending} (h : Pair W w g v (.slice A n c) L L) (h12 : Below w.heap.size w w1) (hx : w.heap.size + 1 + 1 < w1.heap.size)
    (hr : RowOf 26 2 encS w1 (.slice A' n' c') L'.list) (ho : ∀ k, (Value.slice A' n' c').ownBlock = some k → (Value.slice A n c).ownBlock = some k ∨ w.heap.size + 1 + 1 + 1 ≤ k) (hb : Below w1.heap.size w1 w2) (hd : Does w2 g v r L' e w3) (z0 z1 z2 z3 z4 : Value) :
    ∃ v', Pair W (((((w3.setCell ⟨w.heap.size + 1 + 1, 0, Option.none⟩ z0).setCell ⟨w.heap.size + 1 + 1, 1, Option.none⟩ z1).setCell ⟨w.heap.size + 1 + 1, 2, Option.none⟩ z2).setCell ⟨w.heap.size + 1 + 1, 3, Option.none⟩ z3).setCell ⟨w.heap.size + 1 + 1, 4, Option.none⟩ z4) g v' (.slice A' n' c') L' L' ∧
      Kept w (((((w3.setCell ⟨w.heap.size + 1 + 1, 0, Option.none⟩ z0).setCell ⟨w.heap.size + 1 + 1, 1, Option.none⟩ z1).setCell ⟨w.heap.size + 1 + 1, 2, Option.none⟩ z2).setCell ⟨w.heap.size + 1 + 1, 3, Option.none⟩ z3).setCell ⟨w.heap.size + 1 + 1, 4, Option.none⟩ z4) g v ∧
      (∀ k, v'.ownBlock = some k → v.ownBlock = some k ∨ w.heap.size ≤ k) := by
  have hg := h.st.led.box.lt
  have hs := h.st.bel.size
  have P1 : Pair W w1 g v (.slice A' n' c') L L' := h.turn h12 hr (fun k hk => (ho k hk).imp id (by omega))
  have P2 : Pair W w2 g v (.slice A' n' c') L L' := P1.below hb
  have hz1 := h12.size
  have hz2 := hb.size
  obtain ⟨v', P3, hk3, ho3⟩ := P2.does_own hd
  have hv : v'.ownBlock ≠ some (w.heap.size + 1 + 1) := fun hk => by
    rcases ho3 _ hk with h1 | h1
    · have := h.st.led.row.lt _ h1
      omega
    · omega
  have hu : (Value.slice A' n' c').ownBlock ≠ some (w.heap.size + 1 + 1) := fun hk => by
    rcases ho _ hk with h1 | h1
    · have := h.row.lt _ h1
      omega
    · omega
  have kw : Kept w w3 g v := below_kept (below_then h12 (by omega) hb) hk3
  refine ⟨v', ((((P3.set_ ?_ ?_ hv hu _ _).set_ ?_ ?_ hv hu _ _).set_ ?_ ?_ hv hu _ _).set_ ?_ ?_ hv hu _ _).set_ ?_ ?_ hv hu _ _, kept_new (kept_new (kept_new (kept_new (kept_new kw ?_ _ _) ?_ _ _) ?_ _ _) ?_ _ _) ?_ _ _, fun k hk => (ho3 k hk).imp id (by omega)⟩
  all_goals omega
-- THE WALKS (written by gen_leddoes.py)
set_option maxRecDepth 100000 in
set_option maxHeartbeats 8000000 in
theorem does_cut (W w : World) (g : Nat) (v : Value) (A : Option Addr) (n c : Nat) (L : Led) (k a b : Int) (s : Span) (h : Pair W w g v (.slice A n c) L L) (k0 : 0 ≤ k) (k1 : k ≤ 255) (hk : k % 6 = 0) :
    Calls Try.prog 32 #[.pointer (some ⟨g, 0, Option.none⟩), byVal L (.slice A n c), opVal k a b s] w (Both W w g v (.slice A n c)) := by
  have ht : k.tmod 6 = k % 6 := Int.tmod_eq_emod_of_nonneg k0
  have HP := Lib.hid h
  have W1 := Lib.hid (fun w1 (hb : Below w.heap.size w w1) => d_cut L A n c a b w1 (h.below hb).row)
  have W2 := Lib.hid (fun w1 (hb : Below w.heap.size w w1) => l_cut g v L a b w1 (h.below hb).st.led)
  have hgl : g < w.heap.size := h.st.led.box.lt
  have hvl : ∀ x, w.heap.size ≤ x → v.ownBlock ≠ some x := fun x hx e => by have := h.st.led.row.lt x e; omega
  generalize hr : cutR L a b = res at *
  obtain ⟨r, L'⟩ := res
  simp only at W1 W2
  have HVL := Lib.hid hvl
  clear hr h hvl
  obtain ⟨o, cw, th, xs, sp⟩ := L
  obtain ⟨o', cw', th', xs', sp'⟩ := L'
  unfold byVal opVal
  unfold byVal at W1
  simp only at W1

  go_enter Try.func32, Try.ntmps32
  go_wp2_with fail
  refine (W1.out _ ((((Below.refl _ w).alloc (Nat.le_refl _) _).alloc (by simp) _).alloc (by simp; omega) _)).mono ?_
  rintro e w1 ⟨A', n', c', rfl, hr1, b1, ho1⟩
  have D1 := Lib.hid ((dbox_new w ⟨o, cw, th, xs, sp⟩ (.slice A n c) k a b s).below b1)
  have HR1 := Lib.hid hr1
  have HO1 := Lib.hid (show ∀ k, (Value.slice A' n' c').ownBlock = some k → (Value.slice A n c).ownBlock = some k ∨ w.heap.size + 1 + 1 + 1 ≤ k from fun k hk => (ho1 k hk).imp id (by simp))
  have y1 := D1.out.b1.cell 1
  have y2 := D1.out.b1.cell 2
  simp at y1 y2
  clear hr1 b1 ho1
  unfold byVal
  go_upto_region 4 with fail
  obtain ⟨w2, hw2⟩ : ∃ w2, w2 = w1.alloc (.cells #[.bool o', .int .i64 cw', .int .i64 th', .slice A' n' c', .bool sp'] 63) := ⟨_, rfl⟩
  have b12 : Below w1.heap.size w1 w2 := by rw [hw2]; exact (Below.refl _ w1).alloc (Nat.le_refl _) _
  have X8 : Blk w2 w1.heap.size 63 #[.bool o', .int .i64 cw', .int .i64 th', .slice A' n' c', .bool sp'] := by rw [hw2]; exact Blk.new w1 63 _
  have D2 := Lib.hid (D1.out.below b12)
  have HX := Lib.hid X8
  have HB12 := Lib.hid b12
  have q0 := X8.cell 0
  have q1 := X8.cell 1
  have q2 := X8.cell 2
  have q3 := X8.cell 3
  have q4 := X8.cell 4
  have z0 := D2.out.b2.cell 0
  have z1 := D2.out.b2.cell 1
  have z2 := D2.out.b2.cell 2
  have z3 := D2.out.b2.cell 3
  have z4 := D2.out.b2.cell 4
  have o1 := D2.out.b1.cell 1
  have o2 := D2.out.b1.cell 2
  simp at q0 q1 q2 q3 q4 z0 z1 z2 z3 z4 o1 o2
  rw [← hw2]
  clear hw2 b12 X8 y1 y2
  generalize hg8 : w1.heap.size = g8 at *
  have hg9 : w.heap.size ≤ g8 := by rw [← hg8]; exact D1.out.bel.size
  have hg10 : g8 < w2.heap.size := HX.out.lt
  have hr2 : w.heap.size + 1 + 1 < w2.heap.size := D2.out.b2.lt
  have fr0 := D2.out.b2.frozen
  have AFT := Lib.hid (fun (w' w3 : World) (hh : w'.heap = w2.heap) (hk : Kept w' w3 g v) => show (w3.cell? ⟨g8, 0, Option.none⟩ = some (.bool o') ∧ w3.cell? ⟨g8, 1, Option.none⟩ = some (.int .i64 cw') ∧ w3.cell? ⟨g8, 2, Option.none⟩ = some (.int .i64 th') ∧ w3.cell? ⟨g8, 3, Option.none⟩ = some (.slice A' n' c') ∧ w3.cell? ⟨g8, 4, Option.none⟩ = some (.bool sp') ∧ w3.cell? ⟨w.heap.size + 1, 1, Option.none⟩ = some (.int .i64 a) ∧ w3.cell? ⟨w.heap.size + 1, 2, Option.none⟩ = some (.int .i64 b) ∧ w3.cell? ⟨w.heap.size + 1 + 1, 0, Option.none⟩ = some (.bool false) ∧ w3.cell? ⟨w.heap.size + 1 + 1, 1, Option.none⟩ = some (.int .i64 0) ∧ w3.cell? ⟨w.heap.size + 1 + 1, 2, Option.none⟩ = some (.int .i64 0) ∧ w3.cell? ⟨w.heap.size + 1 + 1, 3, Option.none⟩ = some (.slice Option.none 0 0) ∧ w3.cell? ⟨w.heap.size + 1 + 1, 4, Option.none⟩ = some (.bool false) ∧ (∀ i, w3.frozen? ⟨w.heap.size + 1 + 1, i, Option.none⟩ = false)) from by
    have cc : ∀ x o, w'.cell? ⟨x, o, Option.none⟩ = w2.cell? ⟨x, o, Option.none⟩ := fun x o => by unfold World.cell?; rw [hh]
    have ff : ∀ x o, w'.frozen? ⟨x, o, Option.none⟩ = w2.frozen? ⟨x, o, Option.none⟩ := fun x o => by unfold World.frozen?; rw [hh]
    have s1 : g8 < w'.heap.size := by rw [hh]; exact hg10
    have s2 : w.heap.size + 1 < w'.heap.size := by rw [hh]; omega
    have s3 : w.heap.size + 1 + 1 < w'.heap.size := by rw [hh]; exact hr2
    have v1 := HVL.out g8 hg9
    have v2 := HVL.out (w.heap.size + 1) (by omega)
    have v3 := HVL.out (w.heap.size + 1 + 1) (by omega)
    refine ⟨?_, ?_, ?_, ?_, ?_, ?_, ?_, ?_, ?_, ?_, ?_, ?_, fun i => ?_⟩
    · exact (kept_cell hk 0 s1 (by omega) v1).trans ((cc _ _).trans q0)
    · exact (kept_cell hk 1 s1 (by omega) v1).trans ((cc _ _).trans q1)
    · exact (kept_cell hk 2 s1 (by omega) v1).trans ((cc _ _).trans q2)
    · exact (kept_cell hk 3 s1 (by omega) v1).trans ((cc _ _).trans q3)
    · exact (kept_cell hk 4 s1 (by omega) v1).trans ((cc _ _).trans q4)
    · exact (kept_cell hk 1 s2 (by omega) v2).trans ((cc _ _).trans o1)
    · exact (kept_cell hk 2 s2 (by omega) v2).trans ((cc _ _).trans o2)
    · exact (kept_cell hk 0 s3 (by omega) v3).trans ((cc _ _).trans z0)
    · exact (kept_cell hk 1 s3 (by omega) v3).trans ((cc _ _).trans z1)
    · exact (kept_cell hk 2 s3 (by omega) v3).trans ((cc _ _).trans z2)
    · exact (kept_cell hk 3 s3 (by omega) v3).trans ((cc _ _).trans z3)
    · exact (kept_cell hk 4 s3 (by omega) v3).trans ((cc _ _).trans z4)
    · exact (kept_frozen hk i s3 (by omega) v3).trans ((ff _ _).trans (fr0 i)))
  have ne1 : ¬ g8 = w.heap.size + 1 + 1 := by rw [← hg8]; have := D1.out.b2.lt; omega
  have ne2 : ¬ w.heap.size + 1 = w.heap.size + 1 + 1 := by omega
  have ne3 : ¬ w.heap.size + 1 + 1 = g8 := fun e => ne1 e.symm
  have ne4 : ¬ w.heap.size + 1 + 1 = w.heap.size + 1 := by omega
  have HNE := Lib.hid (And.intro hg8 (And.intro hg9 (And.intro hg10 hr2)))
  clear hg8 hg9 hg10 hr2 hgl
  go_region_held3 (fun w' => w'.cell? ⟨g8, 0, Option.none⟩ = some (.bool o') ∧ w'.cell? ⟨g8, 1, Option.none⟩ = some (.int .i64 cw') ∧ w'.cell? ⟨g8, 2, Option.none⟩ = some (.int .i64 th') ∧ w'.cell? ⟨g8, 3, Option.none⟩ = some (.slice A' n' c') ∧ w'.cell? ⟨g8, 4, Option.none⟩ = some (.bool sp') ∧ w'.cell? ⟨w.heap.size + 1, 1, Option.none⟩ = some (.int .i64 a) ∧ w'.cell? ⟨w.heap.size + 1, 2, Option.none⟩ = some (.int .i64 b)) (go_keep) ((go_at_call 28; refine (W2.out _ (by first | exact D2.out.bel.drew | exact D2.out.bel.drew.drew)).mono ?_; rintro e w3 ⟨rfl, v3, hl3, hk3, ho3⟩; obtain ⟨u0, u1, u2, u3, u4, u5, u6, u7, u8, u9, u10, u11, fr3⟩ := AFT.out _ _ (by rfl) hk3; have HD3 := Lib.hid (show Does w2 g v (.bool r) ⟨o', cw', th', xs', sp'⟩ (.returned (.bool r)) w3 from ⟨rfl, v3, hl3, ⟨hk3.os, hk3.tape, hk3.output, hk3.size, hk3.block⟩, ho3⟩); clear hl3 hk3 ho3))
  all_goals
    go_wp2
    obtain ⟨v9, P9, K9, O9⟩ := both_end HP.out D1.out.bel D1.out.b2.lt HR1.out HO1.out (HNE.out.1 ▸ HB12.out) HD3.out (.bool o') (.int .i64 cw') (.int .i64 th') (.slice A' n' c') (.bool sp')
    refine bodyPost_ret (v := .tuple #[byVal ⟨o', cw', th', xs', sp'⟩ (.slice A' n' c'), .bool true]) (by simp [results, Try.results32, go_sem, byVal, u7, u8, u9, u10, u11]; done) rfl ⟨A', n', c', v9, ⟨o', cw', th', xs', sp'⟩, rfl, P9, K9, O9, fun k hk => (HO1.out k hk).imp id (by omega)⟩
set_option maxRecDepth 100000 in
set_option maxHeartbeats 8000000 in
theorem does_again1 (W w : World) (g : Nat) (v : Value) (A : Option Addr) (n c : Nat) (L : Led) (k a b : Int) (s : Span) (h : Pair W w g v (.slice A n c) L L) (k0 : 0 ≤ k) (k1 : k ≤ 255) (hk : k % 6 = 1) :
    Calls Try.prog 32 #[.pointer (some ⟨g, 0, Option.none⟩), byVal L (.slice A n c), opVal k a b s] w (Both W w g v (.slice A n c)) := by
  have ht : k.tmod 6 = k % 6 := Int.tmod_eq_emod_of_nonneg k0
  have HP := Lib.hid h
  have W1 := Lib.hid (fun w1 (hb : Below w.heap.size w w1) => d_again L A n c s w1 (h.below hb).row h.st.led.row.1)
  have W2 := Lib.hid (fun w1 (hb : Below w.heap.size w w1) => l_again g v L s w1 (h.below hb).st.led)
  have hgl : g < w.heap.size := h.st.led.box.lt
  have hvl : ∀ x, w.heap.size ≤ x → v.ownBlock ≠ some x := fun x hx e => by have := h.st.led.row.lt x e; omega
  generalize hr : againR L s = res at *
  obtain ⟨r, L'⟩ := res
  simp only at W1 W2
  have HVL := Lib.hid hvl
  clear hr h hvl
  obtain ⟨o, cw, th, xs, sp⟩ := L
  obtain ⟨o', cw', th', xs', sp'⟩ := L'
  unfold byVal opVal
  unfold byVal at W1
  simp only at W1

  go_enter Try.func32, Try.ntmps32
  go_wp2_with fail
  refine (W1.out _ ((((Below.refl _ w).alloc (Nat.le_refl _) _).alloc (by simp) _).alloc (by simp; omega) _)).mono ?_
  rintro e w1 ⟨A', n', c', rfl, hr1, b1, ho1⟩
  have D1 := Lib.hid ((dbox_new w ⟨o, cw, th, xs, sp⟩ (.slice A n c) k a b s).below b1)
  have HR1 := Lib.hid hr1
  have HO1 := Lib.hid (show ∀ k, (Value.slice A' n' c').ownBlock = some k → (Value.slice A n c).ownBlock = some k ∨ w.heap.size + 1 + 1 + 1 ≤ k from fun k hk => (ho1 k hk).imp id (by simp))
  have y1 := D1.out.b1.cell 3
  have y2 := D1.out.b1.cell 4
  simp at y1 y2
  clear hr1 b1 ho1
  unfold byVal
  go_upto_region 8 with fail
  obtain ⟨w2, hw2⟩ : ∃ w2, w2 = w1.alloc (.cells #[.bool o', .int .i64 cw', .int .i64 th', .slice A' n' c', .bool sp'] 63) := ⟨_, rfl⟩
  have b12 : Below w1.heap.size w1 w2 := by rw [hw2]; exact (Below.refl _ w1).alloc (Nat.le_refl _) _
  have X8 : Blk w2 w1.heap.size 63 #[.bool o', .int .i64 cw', .int .i64 th', .slice A' n' c', .bool sp'] := by rw [hw2]; exact Blk.new w1 63 _
  have D2 := Lib.hid (D1.out.below b12)
  have HX := Lib.hid X8
  have HB12 := Lib.hid b12
  have q0 := X8.cell 0
  have q1 := X8.cell 1
  have q2 := X8.cell 2
  have q3 := X8.cell 3
  have q4 := X8.cell 4
  have z0 := D2.out.b2.cell 0
  have z1 := D2.out.b2.cell 1
  have z2 := D2.out.b2.cell 2
  have z3 := D2.out.b2.cell 3
  have z4 := D2.out.b2.cell 4
  have o1 := D2.out.b1.cell 3
  have o2 := D2.out.b1.cell 4
  simp at q0 q1 q2 q3 q4 z0 z1 z2 z3 z4 o1 o2
  rw [← hw2]
  clear hw2 b12 X8 y1 y2
  generalize hg8 : w1.heap.size = g8 at *
  have hg9 : w.heap.size ≤ g8 := by rw [← hg8]; exact D1.out.bel.size
  have hg10 : g8 < w2.heap.size := HX.out.lt
  have hr2 : w.heap.size + 1 + 1 < w2.heap.size := D2.out.b2.lt
  have fr0 := D2.out.b2.frozen
  have AFT := Lib.hid (fun (w' w3 : World) (hh : w'.heap = w2.heap) (hk : Kept w' w3 g v) => show (w3.cell? ⟨g8, 0, Option.none⟩ = some (.bool o') ∧ w3.cell? ⟨g8, 1, Option.none⟩ = some (.int .i64 cw') ∧ w3.cell? ⟨g8, 2, Option.none⟩ = some (.int .i64 th') ∧ w3.cell? ⟨g8, 3, Option.none⟩ = some (.slice A' n' c') ∧ w3.cell? ⟨g8, 4, Option.none⟩ = some (.bool sp') ∧ w3.cell? ⟨w.heap.size + 1, 3, Option.none⟩ = some (.int .i64 s.lo) ∧ w3.cell? ⟨w.heap.size + 1, 4, Option.none⟩ = some (.int .i64 s.hi) ∧ w3.cell? ⟨w.heap.size + 1 + 1, 0, Option.none⟩ = some (.bool false) ∧ w3.cell? ⟨w.heap.size + 1 + 1, 1, Option.none⟩ = some (.int .i64 0) ∧ w3.cell? ⟨w.heap.size + 1 + 1, 2, Option.none⟩ = some (.int .i64 0) ∧ w3.cell? ⟨w.heap.size + 1 + 1, 3, Option.none⟩ = some (.slice Option.none 0 0) ∧ w3.cell? ⟨w.heap.size + 1 + 1, 4, Option.none⟩ = some (.bool false) ∧ (∀ i, w3.frozen? ⟨w.heap.size + 1 + 1, i, Option.none⟩ = false)) from by
    have cc : ∀ x o, w'.cell? ⟨x, o, Option.none⟩ = w2.cell? ⟨x, o, Option.none⟩ := fun x o => by unfold World.cell?; rw [hh]
    have ff : ∀ x o, w'.frozen? ⟨x, o, Option.none⟩ = w2.frozen? ⟨x, o, Option.none⟩ := fun x o => by unfold World.frozen?; rw [hh]
    have s1 : g8 < w'.heap.size := by rw [hh]; exact hg10
    have s2 : w.heap.size + 1 < w'.heap.size := by rw [hh]; omega
    have s3 : w.heap.size + 1 + 1 < w'.heap.size := by rw [hh]; exact hr2
    have v1 := HVL.out g8 hg9
    have v2 := HVL.out (w.heap.size + 1) (by omega)
    have v3 := HVL.out (w.heap.size + 1 + 1) (by omega)
    refine ⟨?_, ?_, ?_, ?_, ?_, ?_, ?_, ?_, ?_, ?_, ?_, ?_, fun i => ?_⟩
    · exact (kept_cell hk 0 s1 (by omega) v1).trans ((cc _ _).trans q0)
    · exact (kept_cell hk 1 s1 (by omega) v1).trans ((cc _ _).trans q1)
    · exact (kept_cell hk 2 s1 (by omega) v1).trans ((cc _ _).trans q2)
    · exact (kept_cell hk 3 s1 (by omega) v1).trans ((cc _ _).trans q3)
    · exact (kept_cell hk 4 s1 (by omega) v1).trans ((cc _ _).trans q4)
    · exact (kept_cell hk 3 s2 (by omega) v2).trans ((cc _ _).trans o1)
    · exact (kept_cell hk 4 s2 (by omega) v2).trans ((cc _ _).trans o2)
    · exact (kept_cell hk 0 s3 (by omega) v3).trans ((cc _ _).trans z0)
    · exact (kept_cell hk 1 s3 (by omega) v3).trans ((cc _ _).trans z1)
    · exact (kept_cell hk 2 s3 (by omega) v3).trans ((cc _ _).trans z2)
    · exact (kept_cell hk 3 s3 (by omega) v3).trans ((cc _ _).trans z3)
    · exact (kept_cell hk 4 s3 (by omega) v3).trans ((cc _ _).trans z4)
    · exact (kept_frozen hk i s3 (by omega) v3).trans ((ff _ _).trans (fr0 i)))
  have ne1 : ¬ g8 = w.heap.size + 1 + 1 := by rw [← hg8]; have := D1.out.b2.lt; omega
  have ne2 : ¬ w.heap.size + 1 = w.heap.size + 1 + 1 := by omega
  have ne3 : ¬ w.heap.size + 1 + 1 = g8 := fun e => ne1 e.symm
  have ne4 : ¬ w.heap.size + 1 + 1 = w.heap.size + 1 := by omega
  have HNE := Lib.hid (And.intro hg8 (And.intro hg9 (And.intro hg10 hr2)))
  clear hg8 hg9 hg10 hr2 hgl
  go_region_held3 (fun w' => w'.cell? ⟨g8, 0, Option.none⟩ = some (.bool o') ∧ w'.cell? ⟨g8, 1, Option.none⟩ = some (.int .i64 cw') ∧ w'.cell? ⟨g8, 2, Option.none⟩ = some (.int .i64 th') ∧ w'.cell? ⟨g8, 3, Option.none⟩ = some (.slice A' n' c') ∧ w'.cell? ⟨g8, 4, Option.none⟩ = some (.bool sp') ∧ w'.cell? ⟨w.heap.size + 1, 3, Option.none⟩ = some (.int .i64 s.lo) ∧ w'.cell? ⟨w.heap.size + 1, 4, Option.none⟩ = some (.int .i64 s.hi)) (go_keep) ((go_at_call 26; refine (W2.out _ (by first | exact D2.out.bel.drew | exact D2.out.bel.drew.drew)).mono ?_; rintro e w3 ⟨rfl, v3, hl3, hk3, ho3⟩; obtain ⟨u0, u1, u2, u3, u4, u5, u6, u7, u8, u9, u10, u11, fr3⟩ := AFT.out _ _ (by rfl) hk3; have HD3 := Lib.hid (show Does w2 g v (.int .i64 r) ⟨o', cw', th', xs', sp'⟩ (.returned (.int .i64 r)) w3 from ⟨rfl, v3, hl3, ⟨hk3.os, hk3.tape, hk3.output, hk3.size, hk3.block⟩, ho3⟩); clear hl3 hk3 ho3))
  all_goals
    go_wp2
    obtain ⟨v9, P9, K9, O9⟩ := both_end HP.out D1.out.bel D1.out.b2.lt HR1.out HO1.out (HNE.out.1 ▸ HB12.out) HD3.out (.bool o') (.int .i64 cw') (.int .i64 th') (.slice A' n' c') (.bool sp')
    refine bodyPost_ret (v := .tuple #[byVal ⟨o', cw', th', xs', sp'⟩ (.slice A' n' c'), .bool true]) (by simp [results, Try.results32, go_sem, byVal, u7, u8, u9, u10, u11]; done) rfl ⟨A', n', c', v9, ⟨o', cw', th', xs', sp'⟩, rfl, P9, K9, O9, fun k hk => (HO1.out k hk).imp id (by omega)⟩
set_option maxRecDepth 100000 in
set_option maxHeartbeats 8000000 in
theorem does_again2 (W w : World) (g : Nat) (v : Value) (A : Option Addr) (n c : Nat) (L : Led) (k a b : Int) (s : Span) (h : Pair W w g v (.slice A n c) L L) (k0 : 0 ≤ k) (k1 : k ≤ 255) (hk : k % 6 = 2) :
    Calls Try.prog 32 #[.pointer (some ⟨g, 0, Option.none⟩), byVal L (.slice A n c), opVal k a b s] w (Both W w g v (.slice A n c)) := by
  have ht : k.tmod 6 = k % 6 := Int.tmod_eq_emod_of_nonneg k0
  have HP := Lib.hid h
  have W1 := Lib.hid (fun w1 (hb : Below w.heap.size w w1) => d_again L A n c s w1 (h.below hb).row h.st.led.row.1)
  have W2 := Lib.hid (fun w1 (hb : Below w.heap.size w w1) => l_again g v L s w1 (h.below hb).st.led)
  have hgl : g < w.heap.size := h.st.led.box.lt
  have hvl : ∀ x, w.heap.size ≤ x → v.ownBlock ≠ some x := fun x hx e => by have := h.st.led.row.lt x e; omega
  generalize hr : againR L s = res at *
  obtain ⟨r, L'⟩ := res
  simp only at W1 W2
  have HVL := Lib.hid hvl
  clear hr h hvl
  obtain ⟨o, cw, th, xs, sp⟩ := L
  obtain ⟨o', cw', th', xs', sp'⟩ := L'
  unfold byVal opVal
  unfold byVal at W1
  simp only at W1

  go_enter Try.func32, Try.ntmps32
  go_wp2_with fail
  refine (W1.out _ ((((Below.refl _ w).alloc (Nat.le_refl _) _).alloc (by simp) _).alloc (by simp; omega) _)).mono ?_
  rintro e w1 ⟨A', n', c', rfl, hr1, b1, ho1⟩
  have D1 := Lib.hid ((dbox_new w ⟨o, cw, th, xs, sp⟩ (.slice A n c) k a b s).below b1)
  have HR1 := Lib.hid hr1
  have HO1 := Lib.hid (show ∀ k, (Value.slice A' n' c').ownBlock = some k → (Value.slice A n c).ownBlock = some k ∨ w.heap.size + 1 + 1 + 1 ≤ k from fun k hk => (ho1 k hk).imp id (by simp))
  have y1 := D1.out.b1.cell 3
  have y2 := D1.out.b1.cell 4
  simp at y1 y2
  clear hr1 b1 ho1
  unfold byVal
  go_upto_region 8 with fail
  obtain ⟨w2, hw2⟩ : ∃ w2, w2 = w1.alloc (.cells #[.bool o', .int .i64 cw', .int .i64 th', .slice A' n' c', .bool sp'] 63) := ⟨_, rfl⟩
  have b12 : Below w1.heap.size w1 w2 := by rw [hw2]; exact (Below.refl _ w1).alloc (Nat.le_refl _) _
  have X8 : Blk w2 w1.heap.size 63 #[.bool o', .int .i64 cw', .int .i64 th', .slice A' n' c', .bool sp'] := by rw [hw2]; exact Blk.new w1 63 _
  have D2 := Lib.hid (D1.out.below b12)
  have HX := Lib.hid X8
  have HB12 := Lib.hid b12
  have q0 := X8.cell 0
  have q1 := X8.cell 1
  have q2 := X8.cell 2
  have q3 := X8.cell 3
  have q4 := X8.cell 4
  have z0 := D2.out.b2.cell 0
  have z1 := D2.out.b2.cell 1
  have z2 := D2.out.b2.cell 2
  have z3 := D2.out.b2.cell 3
  have z4 := D2.out.b2.cell 4
  have o1 := D2.out.b1.cell 3
  have o2 := D2.out.b1.cell 4
  simp at q0 q1 q2 q3 q4 z0 z1 z2 z3 z4 o1 o2
  rw [← hw2]
  clear hw2 b12 X8 y1 y2
  generalize hg8 : w1.heap.size = g8 at *
  have hg9 : w.heap.size ≤ g8 := by rw [← hg8]; exact D1.out.bel.size
  have hg10 : g8 < w2.heap.size := HX.out.lt
  have hr2 : w.heap.size + 1 + 1 < w2.heap.size := D2.out.b2.lt
  have fr0 := D2.out.b2.frozen
  have AFT := Lib.hid (fun (w' w3 : World) (hh : w'.heap = w2.heap) (hk : Kept w' w3 g v) => show (w3.cell? ⟨g8, 0, Option.none⟩ = some (.bool o') ∧ w3.cell? ⟨g8, 1, Option.none⟩ = some (.int .i64 cw') ∧ w3.cell? ⟨g8, 2, Option.none⟩ = some (.int .i64 th') ∧ w3.cell? ⟨g8, 3, Option.none⟩ = some (.slice A' n' c') ∧ w3.cell? ⟨g8, 4, Option.none⟩ = some (.bool sp') ∧ w3.cell? ⟨w.heap.size + 1, 3, Option.none⟩ = some (.int .i64 s.lo) ∧ w3.cell? ⟨w.heap.size + 1, 4, Option.none⟩ = some (.int .i64 s.hi) ∧ w3.cell? ⟨w.heap.size + 1 + 1, 0, Option.none⟩ = some (.bool false) ∧ w3.cell? ⟨w.heap.size + 1 + 1, 1, Option.none⟩ = some (.int .i64 0) ∧ w3.cell? ⟨w.heap.size + 1 + 1, 2, Option.none⟩ = some (.int .i64 0) ∧ w3.cell? ⟨w.heap.size + 1 + 1, 3, Option.none⟩ = some (.slice Option.none 0 0) ∧ w3.cell? ⟨w.heap.size + 1 + 1, 4, Option.none⟩ = some (.bool false) ∧ (∀ i, w3.frozen? ⟨w.heap.size + 1 + 1, i, Option.none⟩ = false)) from by
    have cc : ∀ x o, w'.cell? ⟨x, o, Option.none⟩ = w2.cell? ⟨x, o, Option.none⟩ := fun x o => by unfold World.cell?; rw [hh]
    have ff : ∀ x o, w'.frozen? ⟨x, o, Option.none⟩ = w2.frozen? ⟨x, o, Option.none⟩ := fun x o => by unfold World.frozen?; rw [hh]
    have s1 : g8 < w'.heap.size := by rw [hh]; exact hg10
    have s2 : w.heap.size + 1 < w'.heap.size := by rw [hh]; omega
    have s3 : w.heap.size + 1 + 1 < w'.heap.size := by rw [hh]; exact hr2
    have v1 := HVL.out g8 hg9
    have v2 := HVL.out (w.heap.size + 1) (by omega)
    have v3 := HVL.out (w.heap.size + 1 + 1) (by omega)
    refine ⟨?_, ?_, ?_, ?_, ?_, ?_, ?_, ?_, ?_, ?_, ?_, ?_, fun i => ?_⟩
    · exact (kept_cell hk 0 s1 (by omega) v1).trans ((cc _ _).trans q0)
    · exact (kept_cell hk 1 s1 (by omega) v1).trans ((cc _ _).trans q1)
    · exact (kept_cell hk 2 s1 (by omega) v1).trans ((cc _ _).trans q2)
    · exact (kept_cell hk 3 s1 (by omega) v1).trans ((cc _ _).trans q3)
    · exact (kept_cell hk 4 s1 (by omega) v1).trans ((cc _ _).trans q4)
    · exact (kept_cell hk 3 s2 (by omega) v2).trans ((cc _ _).trans o1)
    · exact (kept_cell hk 4 s2 (by omega) v2).trans ((cc _ _).trans o2)
    · exact (kept_cell hk 0 s3 (by omega) v3).trans ((cc _ _).trans z0)
    · exact (kept_cell hk 1 s3 (by omega) v3).trans ((cc _ _).trans z1)
    · exact (kept_cell hk 2 s3 (by omega) v3).trans ((cc _ _).trans z2)
    · exact (kept_cell hk 3 s3 (by omega) v3).trans ((cc _ _).trans z3)
    · exact (kept_cell hk 4 s3 (by omega) v3).trans ((cc _ _).trans z4)
    · exact (kept_frozen hk i s3 (by omega) v3).trans ((ff _ _).trans (fr0 i)))
  have ne1 : ¬ g8 = w.heap.size + 1 + 1 := by rw [← hg8]; have := D1.out.b2.lt; omega
  have ne2 : ¬ w.heap.size + 1 = w.heap.size + 1 + 1 := by omega
  have ne3 : ¬ w.heap.size + 1 + 1 = g8 := fun e => ne1 e.symm
  have ne4 : ¬ w.heap.size + 1 + 1 = w.heap.size + 1 := by omega
  have HNE := Lib.hid (And.intro hg8 (And.intro hg9 (And.intro hg10 hr2)))
  clear hg8 hg9 hg10 hr2 hgl
  go_region_held3 (fun w' => w'.cell? ⟨g8, 0, Option.none⟩ = some (.bool o') ∧ w'.cell? ⟨g8, 1, Option.none⟩ = some (.int .i64 cw') ∧ w'.cell? ⟨g8, 2, Option.none⟩ = some (.int .i64 th') ∧ w'.cell? ⟨g8, 3, Option.none⟩ = some (.slice A' n' c') ∧ w'.cell? ⟨g8, 4, Option.none⟩ = some (.bool sp') ∧ w'.cell? ⟨w.heap.size + 1, 3, Option.none⟩ = some (.int .i64 s.lo) ∧ w'.cell? ⟨w.heap.size + 1, 4, Option.none⟩ = some (.int .i64 s.hi)) (go_keep) ((go_at_call 26; refine (W2.out _ (by first | exact D2.out.bel.drew | exact D2.out.bel.drew.drew)).mono ?_; rintro e w3 ⟨rfl, v3, hl3, hk3, ho3⟩; obtain ⟨u0, u1, u2, u3, u4, u5, u6, u7, u8, u9, u10, u11, fr3⟩ := AFT.out _ _ (by rfl) hk3; have HD3 := Lib.hid (show Does w2 g v (.int .i64 r) ⟨o', cw', th', xs', sp'⟩ (.returned (.int .i64 r)) w3 from ⟨rfl, v3, hl3, ⟨hk3.os, hk3.tape, hk3.output, hk3.size, hk3.block⟩, ho3⟩); clear hl3 hk3 ho3))
  all_goals
    go_wp2
    obtain ⟨v9, P9, K9, O9⟩ := both_end HP.out D1.out.bel D1.out.b2.lt HR1.out HO1.out (HNE.out.1 ▸ HB12.out) HD3.out (.bool o') (.int .i64 cw') (.int .i64 th') (.slice A' n' c') (.bool sp')
    refine bodyPost_ret (v := .tuple #[byVal ⟨o', cw', th', xs', sp'⟩ (.slice A' n' c'), .bool true]) (by simp [results, Try.results32, go_sem, byVal, u7, u8, u9, u10, u11]; done) rfl ⟨A', n', c', v9, ⟨o', cw', th', xs', sp'⟩, rfl, P9, K9, O9, fun k hk => (HO1.out k hk).imp id (by omega)⟩
set_option maxRecDepth 100000 in
set_option maxHeartbeats 8000000 in
theorem does_dup (W w : World) (g : Nat) (v : Value) (A : Option Addr) (n c : Nat) (L : Led) (k a b : Int) (s : Span) (h : Pair W w g v (.slice A n c) L L) (k0 : 0 ≤ k) (k1 : k ≤ 255) (hk : k % 6 = 3) :
    Calls Try.prog 32 #[.pointer (some ⟨g, 0, Option.none⟩), byVal L (.slice A n c), opVal k a b s] w (Both W w g v (.slice A n c)) := by
  have ht : k.tmod 6 = k % 6 := Int.tmod_eq_emod_of_nonneg k0
  have HP := Lib.hid h
  have W1 := Lib.hid (fun w1 (hb : Below w.heap.size w w1) => d_dup L A n c s w1 (h.below hb).row h.st.led.row.1)
  have W2 := Lib.hid (fun w1 (hb : Below w.heap.size w w1) => l_dup g v L s w1 (h.below hb).st.led)
  have hgl : g < w.heap.size := h.st.led.box.lt
  have hvl : ∀ x, w.heap.size ≤ x → v.ownBlock ≠ some x := fun x hx e => by have := h.st.led.row.lt x e; omega
  generalize hr : dupR L s = res at *
  obtain ⟨r, L'⟩ := res
  simp only at W1 W2
  have HVL := Lib.hid hvl
  clear hr h hvl
  obtain ⟨o, cw, th, xs, sp⟩ := L
  obtain ⟨o', cw', th', xs', sp'⟩ := L'
  unfold byVal opVal
  unfold byVal at W1
  simp only at W1

  go_enter Try.func32, Try.ntmps32
  go_wp2_with fail
  refine (W1.out _ ((((Below.refl _ w).alloc (Nat.le_refl _) _).alloc (by simp) _).alloc (by simp; omega) _)).mono ?_
  rintro e w1 ⟨A', n', c', rfl, hr1, b1, ho1⟩
  have D1 := Lib.hid ((dbox_new w ⟨o, cw, th, xs, sp⟩ (.slice A n c) k a b s).below b1)
  have HR1 := Lib.hid hr1
  have HO1 := Lib.hid (show ∀ k, (Value.slice A' n' c').ownBlock = some k → (Value.slice A n c).ownBlock = some k ∨ w.heap.size + 1 + 1 + 1 ≤ k from fun k hk => (ho1 k hk).imp id (by simp))
  have y1 := D1.out.b1.cell 3
  have y2 := D1.out.b1.cell 4
  simp at y1 y2
  clear hr1 b1 ho1
  unfold byVal
  go_upto_region 11 with fail
  obtain ⟨w2, hw2⟩ : ∃ w2, w2 = w1.alloc (.cells #[.bool o', .int .i64 cw', .int .i64 th', .slice A' n' c', .bool sp'] 63) := ⟨_, rfl⟩
  have b12 : Below w1.heap.size w1 w2 := by rw [hw2]; exact (Below.refl _ w1).alloc (Nat.le_refl _) _
  have X8 : Blk w2 w1.heap.size 63 #[.bool o', .int .i64 cw', .int .i64 th', .slice A' n' c', .bool sp'] := by rw [hw2]; exact Blk.new w1 63 _
  have D2 := Lib.hid (D1.out.below b12)
  have HX := Lib.hid X8
  have HB12 := Lib.hid b12
  have q0 := X8.cell 0
  have q1 := X8.cell 1
  have q2 := X8.cell 2
  have q3 := X8.cell 3
  have q4 := X8.cell 4
  have z0 := D2.out.b2.cell 0
  have z1 := D2.out.b2.cell 1
  have z2 := D2.out.b2.cell 2
  have z3 := D2.out.b2.cell 3
  have z4 := D2.out.b2.cell 4
  have o1 := D2.out.b1.cell 3
  have o2 := D2.out.b1.cell 4
  simp at q0 q1 q2 q3 q4 z0 z1 z2 z3 z4 o1 o2
  rw [← hw2]
  clear hw2 b12 X8 y1 y2
  generalize hg8 : w1.heap.size = g8 at *
  have hg9 : w.heap.size ≤ g8 := by rw [← hg8]; exact D1.out.bel.size
  have hg10 : g8 < w2.heap.size := HX.out.lt
  have hr2 : w.heap.size + 1 + 1 < w2.heap.size := D2.out.b2.lt
  have fr0 := D2.out.b2.frozen
  have AFT := Lib.hid (fun (w' w3 : World) (hh : w'.heap = w2.heap) (hk : Kept w' w3 g v) => show (w3.cell? ⟨g8, 0, Option.none⟩ = some (.bool o') ∧ w3.cell? ⟨g8, 1, Option.none⟩ = some (.int .i64 cw') ∧ w3.cell? ⟨g8, 2, Option.none⟩ = some (.int .i64 th') ∧ w3.cell? ⟨g8, 3, Option.none⟩ = some (.slice A' n' c') ∧ w3.cell? ⟨g8, 4, Option.none⟩ = some (.bool sp') ∧ w3.cell? ⟨w.heap.size + 1, 3, Option.none⟩ = some (.int .i64 s.lo) ∧ w3.cell? ⟨w.heap.size + 1, 4, Option.none⟩ = some (.int .i64 s.hi) ∧ w3.cell? ⟨w.heap.size + 1 + 1, 0, Option.none⟩ = some (.bool false) ∧ w3.cell? ⟨w.heap.size + 1 + 1, 1, Option.none⟩ = some (.int .i64 0) ∧ w3.cell? ⟨w.heap.size + 1 + 1, 2, Option.none⟩ = some (.int .i64 0) ∧ w3.cell? ⟨w.heap.size + 1 + 1, 3, Option.none⟩ = some (.slice Option.none 0 0) ∧ w3.cell? ⟨w.heap.size + 1 + 1, 4, Option.none⟩ = some (.bool false) ∧ (∀ i, w3.frozen? ⟨w.heap.size + 1 + 1, i, Option.none⟩ = false)) from by
    have cc : ∀ x o, w'.cell? ⟨x, o, Option.none⟩ = w2.cell? ⟨x, o, Option.none⟩ := fun x o => by unfold World.cell?; rw [hh]
    have ff : ∀ x o, w'.frozen? ⟨x, o, Option.none⟩ = w2.frozen? ⟨x, o, Option.none⟩ := fun x o => by unfold World.frozen?; rw [hh]
    have s1 : g8 < w'.heap.size := by rw [hh]; exact hg10
    have s2 : w.heap.size + 1 < w'.heap.size := by rw [hh]; omega
    have s3 : w.heap.size + 1 + 1 < w'.heap.size := by rw [hh]; exact hr2
    have v1 := HVL.out g8 hg9
    have v2 := HVL.out (w.heap.size + 1) (by omega)
    have v3 := HVL.out (w.heap.size + 1 + 1) (by omega)
    refine ⟨?_, ?_, ?_, ?_, ?_, ?_, ?_, ?_, ?_, ?_, ?_, ?_, fun i => ?_⟩
    · exact (kept_cell hk 0 s1 (by omega) v1).trans ((cc _ _).trans q0)
    · exact (kept_cell hk 1 s1 (by omega) v1).trans ((cc _ _).trans q1)
    · exact (kept_cell hk 2 s1 (by omega) v1).trans ((cc _ _).trans q2)
    · exact (kept_cell hk 3 s1 (by omega) v1).trans ((cc _ _).trans q3)
    · exact (kept_cell hk 4 s1 (by omega) v1).trans ((cc _ _).trans q4)
    · exact (kept_cell hk 3 s2 (by omega) v2).trans ((cc _ _).trans o1)
    · exact (kept_cell hk 4 s2 (by omega) v2).trans ((cc _ _).trans o2)
    · exact (kept_cell hk 0 s3 (by omega) v3).trans ((cc _ _).trans z0)
    · exact (kept_cell hk 1 s3 (by omega) v3).trans ((cc _ _).trans z1)
    · exact (kept_cell hk 2 s3 (by omega) v3).trans ((cc _ _).trans z2)
    · exact (kept_cell hk 3 s3 (by omega) v3).trans ((cc _ _).trans z3)
    · exact (kept_cell hk 4 s3 (by omega) v3).trans ((cc _ _).trans z4)
    · exact (kept_frozen hk i s3 (by omega) v3).trans ((ff _ _).trans (fr0 i)))
  have ne1 : ¬ g8 = w.heap.size + 1 + 1 := by rw [← hg8]; have := D1.out.b2.lt; omega
  have ne2 : ¬ w.heap.size + 1 = w.heap.size + 1 + 1 := by omega
  have ne3 : ¬ w.heap.size + 1 + 1 = g8 := fun e => ne1 e.symm
  have ne4 : ¬ w.heap.size + 1 + 1 = w.heap.size + 1 := by omega
  have HNE := Lib.hid (And.intro hg8 (And.intro hg9 (And.intro hg10 hr2)))
  clear hg8 hg9 hg10 hr2 hgl
  go_region_held3 (fun w' => w'.cell? ⟨g8, 0, Option.none⟩ = some (.bool o') ∧ w'.cell? ⟨g8, 1, Option.none⟩ = some (.int .i64 cw') ∧ w'.cell? ⟨g8, 2, Option.none⟩ = some (.int .i64 th') ∧ w'.cell? ⟨g8, 3, Option.none⟩ = some (.slice A' n' c') ∧ w'.cell? ⟨g8, 4, Option.none⟩ = some (.bool sp') ∧ w'.cell? ⟨w.heap.size + 1, 3, Option.none⟩ = some (.int .i64 s.lo) ∧ w'.cell? ⟨w.heap.size + 1, 4, Option.none⟩ = some (.int .i64 s.hi)) (go_keep) ((go_at_call 27; refine (W2.out _ (by first | exact D2.out.bel.drew | exact D2.out.bel.drew.drew)).mono ?_; rintro e w3 ⟨rfl, v3, hl3, hk3, ho3⟩; obtain ⟨u0, u1, u2, u3, u4, u5, u6, u7, u8, u9, u10, u11, fr3⟩ := AFT.out _ _ (by rfl) hk3; have HD3 := Lib.hid (show Does w2 g v (.bool r) ⟨o', cw', th', xs', sp'⟩ (.returned (.bool r)) w3 from ⟨rfl, v3, hl3, ⟨hk3.os, hk3.tape, hk3.output, hk3.size, hk3.block⟩, ho3⟩); clear hl3 hk3 ho3))
  all_goals
    go_wp2
    obtain ⟨v9, P9, K9, O9⟩ := both_end HP.out D1.out.bel D1.out.b2.lt HR1.out HO1.out (HNE.out.1 ▸ HB12.out) HD3.out (.bool o') (.int .i64 cw') (.int .i64 th') (.slice A' n' c') (.bool sp')
    refine bodyPost_ret (v := .tuple #[byVal ⟨o', cw', th', xs', sp'⟩ (.slice A' n' c'), .bool true]) (by simp [results, Try.results32, go_sem, byVal, u7, u8, u9, u10, u11]; done) rfl ⟨A', n', c', v9, ⟨o', cw', th', xs', sp'⟩, rfl, P9, K9, O9, fun k hk => (HO1.out k hk).imp id (by omega)⟩
end Go.Proofs.Ytaokiocpfpdmkaa.Led
