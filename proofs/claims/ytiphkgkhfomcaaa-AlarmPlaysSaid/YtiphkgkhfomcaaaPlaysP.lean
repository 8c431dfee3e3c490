/- Chapter 13 (alarm): whatever is set, stopped, and goes by: what holds between the calls. -/
import Derived.Test.YtiphkgkhfomcaaaEqualA
import Derived.Test.YtiphkgkhfomcaaaClockClone
set_option linter.unusedSimpArgs false
set_option linter.unusedVariables false
attribute [local go_sem ↓] Go.wp_at_zero Go.wp_at_succ
namespace Go.Proofs.Ytiphkgkhfomcaaa.Alarm
open Go.BigFrame Go.RowKit Go.OpenShut Go.Proofs.Ytiphkgkhfomcaaa.Aid Go.Proofs.Ytiphkgkhfomcaaa.DMap Go.Proofs.Ytiphkgkhfomcaaa.Heap
/-- The clock and the document's, between two rounds. -/
structure PlS (w wr : World) (C G : Nat) (B : Nat → Prop) (c : Ck) (v : Value) : Prop where
  clk : Clk wr B C c
  row : RowOf 3 1 encI wr v c.A
  box : Blk wr G 44 #[.int .i64 c.now, v]
  bB : ∀ k, B k → w.heap.size ≤ k
  gB : ¬ B G
  gw : w.heap.size ≤ G
  vB : ∀ k, v.ownBlock = some k → ¬ B k ∧ w.heap.size ≤ k ∧ k ≠ G
  bel : Below w.heap.size w wr
theorem PlS.below {w wr w2 : World} {C G : Nat} {B : Nat → Prop} {c : Ck} {v : Value} (h : PlS w wr C G B c v) (hb : Below wr.heap.size wr w2) : PlS w w2 C G B c v :=
  ⟨h.clk.below hb, h.row.below hb, h.box.below hb h.box.lt, h.bB, h.gB, h.gw, h.vB, below_then h.bel h.bel.size hb⟩
/-- What is kept of the round before: the clone and the document's clock. -/
structure Old (W : World) (D Y : Nat) (Bd : Nat → Prop) (c : Ck) (v : Value) : Prop where
  clk : Clk W Bd D c
  row : RowOf 3 1 encI W v c.A
  box : Blk W Y 44 #[.int .i64 c.now, v]
theorem Old.below {W W' : World} {D Y : Nat} {Bd : Nat → Prop} {c : Ck} {v : Value} (h : Old W D Y Bd c v) (hb : Below W.heap.size W W') : Old W' D Y Bd c v := ⟨h.clk.below hb, h.row.below hb, h.box.below hb h.box.lt⟩
theorem Old.keep {W W' : World} {D Y : Nat} {Bd : Nat → Prop} {c : Ck} {v : Value} (h : Old W D Y Bd c v) (hb : ∀ k, k < W.heap.size → (Bd k ∨ v.ownBlock = some k ∨ k = Y) → W'.heap[k]? = W.heap[k]?) : Old W' D Y Bd c v :=
  ⟨h.clk.same (fun k hk => hb k (h.clk.lt k hk) (.inl hk)), h.row.same (fun k hk => hb k (h.row.lt k hk) (.inr (.inl hk))), (hb Y h.box.lt (.inr (.inr rfl))).trans h.box⟩
def Q12 (w W : World) (C G : Nat) (B : Nat → Prop) (c : Ck) (v : Value) (D Y : Nat) : Prop :=
  PlS w W C G B c v ∧ ∃ Bd : Nat → Prop, Old W D Y Bd c v ∧ (∀ k, Bd k → ¬ B k ∧ k ≠ G) ∧ ¬ B Y ∧ Y ≠ G
theorem q12_set {w wr WX w4 : World} {C G D : Nat} {B Bd : Nat → Prop} {c : Ck} {v : Value} (hP : PlS w wr C G B c v) (hW : Below wr.heap.size wr WX) (hx : wr.heap.size < WX.heap.size) (BX : Blk w4 wr.heap.size 44 #[.int .i64 0, nilS]) (b4 : Below WX.heap.size WX w4) (k1 : Clk w4 Bd D c) (k2 : ∀ k, Bd k → WX.heap.size ≤ k) :
    Q12 w ((w4.setCell ⟨wr.heap.size, 0, Option.none⟩ (.int .i64 c.now)).setCell ⟨wr.heap.size, 1, Option.none⟩ v) C G B c v D wr.heap.size := by
  have hb := below_then hW hW.size b4
  have P4 := hP.below hb
  have hs := hP.bel.size
  have hG := hP.box.lt
  have keep : ∀ k, k ≠ wr.heap.size → ((w4.setCell ⟨wr.heap.size, 0, Option.none⟩ (.int .i64 c.now)).setCell ⟨wr.heap.size, 1, Option.none⟩ v).heap[k]? = w4.heap[k]? := fun k hk => (Below.heap_setCell _ _ _ k hk).trans (Below.heap_setCell _ _ _ k hk)
  have hBl : ∀ k, B k → k < wr.heap.size := fun k hk => hP.clk.lt k hk
  have hvl : ∀ k, v.ownBlock = some k → k < wr.heap.size := fun k hk => hP.row.lt k hk
  refine ⟨⟨P4.clk.same (fun k hk => keep k (by have := hBl k hk; omega)), P4.row.same (fun k hk => keep k (by have := hvl k hk; omega)), (keep G (by omega)).trans P4.box, hP.bB, hP.gB, hP.gw, hP.vB, (P4.bel.setCell (p := ⟨wr.heap.size, 0, Option.none⟩) hs _).setCell (p := ⟨wr.heap.size, 1, Option.none⟩) hs _⟩,
    Bd, ⟨k1.same (fun k hk => keep k (by have := k2 k hk; omega)), P4.row.same (fun k hk => keep k (by have := hvl k hk; omega)), ((BX.set_ 0 (.int .i64 c.now)).set_ 1 v).eq (by simp)⟩, fun k hk => ⟨fun e => ?_, fun e => ?_⟩, fun e => ?_, by omega⟩
  · have := k2 k hk; have := hBl k e; omega
  · have := k2 k hk; omega
  · have := hBl _ e; omega
theorem q12_new {w wr WX w4 : World} {C G D : Nat} {B Bd : Nat → Prop} {c : Ck} {v : Value} (hP : PlS w wr C G B c v) (hW : Below wr.heap.size wr WX) (b4 : Below WX.heap.size WX w4) (k1 : Clk w4 Bd D c) (k2 : ∀ k, Bd k → WX.heap.size ≤ k) :
    Q12 w (w4.alloc (.cells #[.int .i64 c.now, v] 44)) C G B c v D w4.heap.size := by
  have hb := below_then hW hW.size b4
  have P4 := hP.below hb
  have ba : Below w4.heap.size w4 (w4.alloc (.cells #[.int .i64 c.now, v] 44)) := (Below.refl _ w4).alloc (Nat.le_refl _) _
  have hG := hP.box.lt
  have hsz := hb.size
  have hW' := hW.size
  have hBl : ∀ k, B k → k < wr.heap.size := fun k hk => hP.clk.lt k hk
  refine ⟨P4.below ba, Bd, ⟨k1.below ba, P4.row.below ba, Blk.new w4 44 _⟩, fun k hk => ⟨fun e => ?_, fun e => ?_⟩, fun e => ?_, by omega⟩
  · have := k2 k hk; have := hBl k e; omega
  · have := k2 k hk; omega
  · have := hBl _ e; omega
/-- Behind the operation: the new clock is told, the document's box still shows the old one. -/
def Q13 (w W : World) (C G : Nat) (c c' : Ck) (v v' : Value) (D Y X : Nat) : Prop :=
  ∃ B' Bd : Nat → Prop, Clk W B' C c' ∧ RowOf 3 1 encI W v' c'.A ∧ Blk W G 44 #[.int .i64 c.now, v] ∧ Blk W X 44 #[.int .i64 c'.now, v'] ∧ X ≠ G ∧ (∀ k, B' k → w.heap.size ≤ k) ∧ ¬ B' G ∧ w.heap.size ≤ G ∧ (∀ k, v'.ownBlock = some k → ¬ B' k ∧ w.heap.size ≤ k ∧ k ≠ G) ∧ Below w.heap.size w W ∧ Old W D Y Bd c v ∧ (∀ k, Bd k → k ≠ G) ∧ Y ≠ G ∧ ∀ k, v.ownBlock = some k → k ≠ G
theorem q13_base {w w5 WX w6 : World} {C G D Y : Nat} {B : Nat → Prop} {c c' : Ck} {v v' : Value} {B' : Nat → Prop} (hQ : Q12 w w5 C G B c v D Y) (hW : Below w5.heap.size w5 WX) (k1 : Clk w6 B' C c') (k2 : RowOf 3 1 encI w6 v' c'.A) (k3 : ∀ k, v'.ownBlock = some k → ¬ B' k ∧ (v.ownBlock = some k ∨ WX.heap.size ≤ k)) (k4 : ∀ k, B' k → B k ∨ WX.heap.size ≤ k) (k5 : Kp B WX w6) :
    Blk w6 G 44 #[.int .i64 c.now, v] ∧ (∀ k, B' k → w.heap.size ≤ k) ∧ ¬ B' G ∧ w.heap.size ≤ G ∧ (∀ k, v'.ownBlock = some k → ¬ B' k ∧ w.heap.size ≤ k ∧ k ≠ G) ∧ Below w.heap.size w w6 ∧ (∃ Bd : Nat → Prop, Old w6 D Y Bd c v ∧ (∀ k, Bd k → k ≠ G ∧ k < w5.heap.size) ∧ Y ≠ G ∧ Y < w5.heap.size) ∧ (∀ k, v.ownBlock = some k → k ≠ G ∧ k < w5.heap.size) ∧ (∀ k, B' k → ¬ (w5.heap.size ≤ k ∧ k < WX.heap.size)) ∧ ∀ k, v'.ownBlock = some k → ¬ (w5.heap.size ≤ k ∧ k < WX.heap.size) := by
  obtain ⟨P5, Bd, O5, o1, o2, o3⟩ := hQ
  have PX := P5.below hW
  have hs := P5.bel.size
  have hsX := hW.size
  have hG := P5.box.lt
  have hBl : ∀ k, B k → k < w5.heap.size := fun k hk => P5.clk.lt k hk
  have hvl : ∀ k, v.ownBlock = some k → k < w5.heap.size := fun k hk => P5.row.lt k hk
  refine ⟨(k5.block G (by omega) P5.gB).trans PX.box, fun k hk => (k4 k hk).elim (P5.bB k) (fun e => by omega), fun e => (k4 G e).elim P5.gB (fun e => by omega), P5.gw, fun k hk => ⟨(k3 k hk).1, (k3 k hk).2.elim (fun e => (P5.vB k e).2.1) (fun e => by omega), (k3 k hk).2.elim (fun e => (P5.vB k e).2.2) (fun e => by omega)⟩, kp_below PX.bel P5.bB k5,
    ⟨Bd, (O5.below hW).keep (fun k hk hh => k5.block k hk (fun e => ?_)), fun k hk => ⟨(o1 k hk).2, O5.clk.lt k hk⟩, o3, O5.box.lt⟩, fun k hk => ⟨(P5.vB k hk).2.2, hvl k hk⟩, fun k hk hc => (k4 k hk).elim (fun e => by have := hBl k e; omega) (fun e => by omega), fun k hk hc => (k3 k hk).2.elim (fun e => by have := hvl k e; omega) (fun e => by omega)⟩
  rcases hh with h1 | h1 | h1
  · exact (o1 k h1).1 e
  · exact (P5.vB k h1).1 e
  · exact o2 (h1 ▸ e)
theorem q13_new {w w5 WX w6 : World} {C G D Y : Nat} {B : Nat → Prop} {c c' : Ck} {v v' : Value} {B' : Nat → Prop} (hQ : Q12 w w5 C G B c v D Y) (hW : Below w5.heap.size w5 WX) (k1 : Clk w6 B' C c') (k2 : RowOf 3 1 encI w6 v' c'.A) (k3 : ∀ k, v'.ownBlock = some k → ¬ B' k ∧ (v.ownBlock = some k ∨ WX.heap.size ≤ k)) (k4 : ∀ k, B' k → B k ∨ WX.heap.size ≤ k) (k5 : Kp B WX w6) :
    Q13 w (w6.alloc (.cells #[.int .i64 c'.now, v'] 44)) C G c c' v v' D Y w6.heap.size := by
  obtain ⟨a1, a2, a3, a4, a5, a6, ⟨Bd, a7, a8, a9, a10⟩, a11, _, _⟩ := q13_base hQ hW k1 k2 k3 k4 k5
  have ba : Below w6.heap.size w6 (w6.alloc (.cells #[.int .i64 c'.now, v'] 44)) := (Below.refl _ w6).alloc (Nat.le_refl _) _
  have := a1.lt
  exact ⟨B', Bd, k1.below ba, k2.below ba, a1.below ba a1.lt, Blk.new w6 44 _, by omega, a2, a3, a4, a5, below_then a6 a6.size ba, a7.below ba, fun k hk => (a8 k hk).1, a9, fun k hk => (a11 k hk).1⟩
theorem q13_set {w w5 WX w6 : World} {C G D Y : Nat} {B : Nat → Prop} {c c' : Ck} {v v' : Value} {B' : Nat → Prop} (hQ : Q12 w w5 C G B c v D Y) (hW : Below w5.heap.size w5 WX) (hx : w5.heap.size < WX.heap.size) (BX : Blk w6 w5.heap.size 44 #[.int .i64 0, nilS]) (k1 : Clk w6 B' C c') (k2 : RowOf 3 1 encI w6 v' c'.A) (k3 : ∀ k, v'.ownBlock = some k → ¬ B' k ∧ (v.ownBlock = some k ∨ WX.heap.size ≤ k)) (k4 : ∀ k, B' k → B k ∨ WX.heap.size ≤ k) (k5 : Kp B WX w6) :
    Q13 w ((w6.setCell ⟨w5.heap.size, 0, Option.none⟩ (.int .i64 c'.now)).setCell ⟨w5.heap.size, 1, Option.none⟩ v') C G c c' v v' D Y w5.heap.size := by
  obtain ⟨a1, a2, a3, a4, a5, a6, ⟨Bd, a7, a8, a9, a10⟩, a11, a12, a13⟩ := q13_base hQ hW k1 k2 k3 k4 k5
  have hG := hQ.1.box.lt
  have hs := hQ.1.bel.size
  have keep : ∀ k, k ≠ w5.heap.size → ((w6.setCell ⟨w5.heap.size, 0, Option.none⟩ (.int .i64 c'.now)).setCell ⟨w5.heap.size, 1, Option.none⟩ v').heap[k]? = w6.heap[k]? := fun k hk => (Below.heap_setCell _ _ _ k hk).trans (Below.heap_setCell _ _ _ k hk)
  refine ⟨B', Bd, k1.same (fun k hk => keep k (fun e => a12 k hk ⟨by omega, by omega⟩)), k2.same (fun k hk => keep k (fun e => a13 k hk ⟨by omega, by omega⟩)), (keep G (by omega)).trans a1, ((BX.set_ 0 (.int .i64 c'.now)).set_ 1 v').eq (by simp), by omega, a2, a3, a4, a5, (a6.setCell (p := ⟨w5.heap.size, 0, Option.none⟩) hs _).setCell (p := ⟨w5.heap.size, 1, Option.none⟩) hs _, a7.keep (fun k _ hh => keep k ?_), fun k hk => (a8 k hk).1, a9, fun k hk => (a11 k hk).1⟩
  rcases hh with h1 | h1 | h1
  · have := (a8 k h1).2; omega
  · have := (a11 k h1).2; omega
  · omega
theorem q13_cells {w W : World} {C G : Nat} {c c' : Ck} {v v' : Value} {D Y X : Nat} (h : Q13 w W C G c c' v v' D Y X) : W.cell? ⟨G, 0, Option.none⟩ = some (.int .i64 c.now) ∧ W.cell? ⟨G, 1, Option.none⟩ = some v ∧ (∀ i, W.frozen? ⟨G, i, Option.none⟩ = false) ∧ W.cell? ⟨X, 0, Option.none⟩ = some (.int .i64 c'.now) ∧ W.cell? ⟨X, 1, Option.none⟩ = some v' := by
  obtain ⟨B', Bd, a1, a2, a3, a4, _⟩ := h
  have e0 := a3.cell 0
  have e1 := a3.cell 1
  have e2 := a4.cell 0
  have e3 := a4.cell 1
  simp at e0 e1 e2 e3
  exact ⟨e0, e1, a3.frozen, e2, e3⟩
/-- The document's box is written. -/
theorem q14 {w W : World} {C G : Nat} {c c' : Ck} {v v' : Value} {D Y X : Nat} (h : Q13 w W C G c c' v v' D Y X) :
    ∃ B' Bd : Nat → Prop, PlS w ((W.setCell ⟨G, 0, Option.none⟩ (.int .i64 c'.now)).setCell ⟨G, 1, Option.none⟩ v') C G B' c' v' ∧ Old ((W.setCell ⟨G, 0, Option.none⟩ (.int .i64 c'.now)).setCell ⟨G, 1, Option.none⟩ v') D Y Bd c v := by
  obtain ⟨B', Bd, a1, a2, a3, a4, a5, a6, a7, a8, a9, a10, a11, a12, a13, a14⟩ := h
  have keep : ∀ k, k ≠ G → ((W.setCell ⟨G, 0, Option.none⟩ (.int .i64 c'.now)).setCell ⟨G, 1, Option.none⟩ v').heap[k]? = W.heap[k]? := fun k hk => (Below.heap_setCell _ _ _ k hk).trans (Below.heap_setCell _ _ _ k hk)
  refine ⟨B', Bd, ⟨a1.same (fun k hk => keep k (fun e => a7 (e ▸ hk))), a2.same (fun k hk => keep k (a9 k hk).2.2), ((a3.set_ 0 (.int .i64 c'.now)).set_ 1 v').eq (by simp), a6, a7, a8, a9, (a10.setCell (p := ⟨G, 0, Option.none⟩) a8 _).setCell (p := ⟨G, 1, Option.none⟩) a8 _⟩, a11.keep (fun k _ hh => keep k ?_)⟩
  rcases hh with h1 | h1 | h1
  · exact a12 k h1
  · exact a14 k h1
  · rw [h1]; exact a13
end Go.Proofs.Ytiphkgkhfomcaaa.Alarm
