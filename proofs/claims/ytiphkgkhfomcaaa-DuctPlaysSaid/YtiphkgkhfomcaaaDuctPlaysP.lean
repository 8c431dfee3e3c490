/- Chapter 25 (duct): whatever is put, doubled, comes and is dropped (law 6): what holds between the calls. -/
import Derived.Test.YtiphkgkhfomcaaaDuctEqualA
import Derived.Test.YtiphkgkhfomcaaaDuctClone
set_option linter.unusedSimpArgs false
set_option linter.unusedVariables false
attribute [local go_sem ↓] Go.wp_at_zero Go.wp_at_succ
namespace Go.Proofs.Ytiphkgkhfomcaaa.Duct
open Go.BigFrame Go.RowKit Go.OpenShut Go.Proofs.Ytiphkgkhfomcaaa.Aid Go.Proofs.Ytiphkgkhfomcaaa.DMap Go.Proofs.Ytiphkgkhfomcaaa.Byt
/-- An operation of the script, its bytes as they lie. -/
structure OpQ where
  k : Int
  id_ : Int
  A : Option Addr
  xs : List Int
  cap : Nat
  dt : Int
def encQ (o : OpQ) : List Value := [.int .u8 o.k, .int .i64 o.id_, .slice o.A o.xs.length o.cap, .int .i64 o.dt]
structure OpQok (w : World) (o : OpQ) : Prop where
  k0 : 0 ≤ o.k
  k1 : o.k ≤ 255
  fit : Fits o.id_
  dt : Fits o.dt
  src : Byt.Src w (.slice o.A o.xs.length o.cap) o.xs
  len : o.xs.length ≤ 9223372036854775807
abbrev opV (o : OpQ) : Value := .agg #[.int .u8 o.k, .int .i64 o.id_, .slice o.A o.xs.length o.cap, .int .i64 o.dt]
/-- A block of another make is none of the duct's own. -/
theorem blk_far {W : World} {g mb k : Nat} {fv : Value} {m : Int → Option Value} {L : Dt} {ty : TypeId} {cs : Array Value} (h : IsDuct W g mb fv m L) (hb : Blk W k ty cs) (h1 : ty ≠ 112) (h2 : ty ≠ 65) : k ≠ g ∧ k ≠ mb ∧ fv.ownBlock ≠ some k := by
  refine ⟨fun e => ?_, fun e => ?_, fun e => ?_⟩
  · subst e
    have := hb.symm.trans h.box
    simp at this
    exact h1 this.2
  · subst e
    obtain ⟨D, ⟨es, cl, e1, _⟩, _⟩ := h.map
    have := hb.symm.trans e1
    simp at this
  · obtain ⟨h0, _⟩ | ⟨b, cap, cur, h0, _, _, h3, _⟩ := h.row
    · rw [h0] at e
      simp [Value.ownBlock] at e
    · rw [h0] at e
      obtain rfl : b = k := by simpa [Value.ownBlock] using e
      have := hb.symm.trans h3
      simp at this
      exact h2 this.2
theorem row_ne {W : World} {X : Nat} {v : Value} {α : Type} {e sz : Nat} {enc : α → List Value} {xs : List α} {ty : TypeId} {cs : Array Value} (h : RowOf e sz enc W v xs) (hX : Blk W X ty cs) (hne : ty ≠ e) (k : Nat) (hk : v.ownBlock = some k) : k ≠ X := fun e1 => by
  subst e1
  rcases h with ⟨a, _⟩ | ⟨b, cap, cur, e2, _, _, q3, _⟩
  · rw [a] at hk; simp [Value.ownBlock] at hk
  · rw [e2] at hk
    obtain rfl : b = k := by simpa [Value.ownBlock] using hk
    have := q3.symm.trans hX
    simp at this
    exact hne this.2.symm
/-- A write into a block of another make. -/
theorem St.far {w W : World} {g mb X i : Nat} {fv : Value} {m : Int → Option Value} {L : Dt} {ty : TypeId} {cs : Array Value} (h : St w W g mb fv m L) (hX : Blk W X ty cs) (h1 : ty ≠ 112) (h2 : ty ≠ 65) (h3 : ty ≠ 5) (hw : w.heap.size ≤ X) (u : Value) : St w (W.setCell ⟨X, i, Option.none⟩ u) g mb fv m L := by
  obtain ⟨f1, f2, f3⟩ := blk_far h.d hX h1 h2
  have keep : ∀ k, k ≠ X → (W.setCell ⟨X, i, Option.none⟩ u).heap[k]? = W.heap[k]? := fun k hk => Below.heap_setCell _ _ _ k hk
  exact ⟨⟨(keep g (Ne.symm f1)).trans h.d.box, h.d.row.same (fun k hk => keep k (row_ne h.d.row hX h2 k hk)), h.d.map.set_ (Ne.symm f2) _, fun j => (h.d.raw j).imp id (fun ⟨v, xs, a, b, c, d, e⟩ => ⟨v, xs, a, b, c.same (fun k hk => keep k (row_ne c hX h3 k hk)), d, e⟩), h.d.ids, h.d.gm, h.d.fg, h.d.fm, h.d.len, h.d.cnt, h.d.l0, h.d.l1⟩, h.gb, h.mbb, h.fb, h.bel.setCell (p := ⟨X, i, Option.none⟩) hw u⟩
/-- Between two rounds. -/
structure PlD (w W : World) (O G g mb : Nat) (fv : Value) (m : Int → Option Value) (L : Dt) (cs : List Cp) (v : Value) (ov : Array Value) : Prop where
  st : St w W g mb fv m L
  row : RowOf 124 5 encP W v cs
  ag : Agree w L cs
  box : Blk W G 76 #[.int .i64 L.last, v]
  ob : Blk W O 63 ov
  gw : w.heap.size ≤ G
theorem PlD.below {w W W' : World} {O G g mb : Nat} {fv : Value} {m : Int → Option Value} {L : Dt} {cs : List Cp} {v : Value} {ov : Array Value} (h : PlD w W O G g mb fv m L cs v ov) (hb : Below W.heap.size W W') : PlD w W' O G g mb fv m L cs v ov :=
  ⟨h.st.below hb, h.row.below hb, h.ag, h.box.below hb h.box.lt, h.ob.below hb h.ob.lt, h.gw⟩
/-- Behind an operation: the new duct is told, the document's box still shows the old one. -/
structure Q11 (w W : World) (O G X g mb : Nat) (fv : Value) (m : Int → Option Value) (L L' : Dt) (cs : List Cp) (v v' : Value) (ov : Array Value) : Prop where
  st : St w W g mb fv m L'
  row : RowOf 124 5 encP W v' cs
  ag : Agree w L' cs
  box : Blk W G 76 #[.int .i64 L.last, v]
  xb : Blk W X 76 #[.int .i64 L'.last, v']
  ob : Blk W O 63 ov
  gw : w.heap.size ≤ G
  ne : X ≠ G
theorem q11_new {w wr WX w7 : World} {O G g mb : Nat} {fv fv' : Value} {m m' : Int → Option Value} {L L' : Dt} {cs cs' : List Cp} {v v' : Value} {ov : Array Value} (hP : PlD w wr O G g mb fv m L cs v ov) (hW : Below wr.heap.size wr WX) (k1 : St w w7 g mb fv' m' L') (k2 : RowOf 124 5 encP w7 v' cs') (k3 : Agree w L' cs') (k4 : Keeps WX w7 g mb fv) :
    Q11 w (w7.alloc (.cells #[.int .i64 L'.last, v'] 76)) O G w7.heap.size g mb fv' m' L L' cs' v v' ov := by
  have PX := hP.below hW
  obtain ⟨g1, g2, g3⟩ := blk_far PX.st.d PX.box (by decide) (by decide)
  obtain ⟨o1, o2, o3⟩ := blk_far PX.st.d PX.ob (by decide) (by decide)
  have ba : Below w7.heap.size w7 (w7.alloc (.cells #[.int .i64 L'.last, v'] 76)) := (Below.refl _ w7).alloc (Nat.le_refl _) _
  have bG : Blk w7 G 76 #[.int .i64 L.last, v] := (k4.block G PX.box.lt g1 g2 g3).trans PX.box
  have bO : Blk w7 O 63 ov := (k4.block O PX.ob.lt o1 o2 o3).trans PX.ob
  have := bG.lt
  exact ⟨k1.below ba, k2.below ba, k3, bG.below ba bG.lt, Blk.new w7 76 _, bO.below ba bO.lt, hP.gw, by omega⟩
theorem q11_set {w wr WX w7 : World} {O G g mb : Nat} {fv fv' : Value} {m m' : Int → Option Value} {L L' : Dt} {cs cs' : List Cp} {v v' : Value} {ov : Array Value} (hP : PlD w wr O G g mb fv m L cs v ov) (hW : Below wr.heap.size wr WX) (BX : Blk w7 wr.heap.size 76 #[.int .i64 0, nilS]) (k1 : St w w7 g mb fv' m' L') (k2 : RowOf 124 5 encP w7 v' cs') (k3 : Agree w L' cs') (k4 : Keeps WX w7 g mb fv) :
    Q11 w ((w7.setCell ⟨wr.heap.size, 0, Option.none⟩ (.int .i64 L'.last)).setCell ⟨wr.heap.size, 1, Option.none⟩ v') O G wr.heap.size g mb fv' m' L L' cs' v v' ov := by
  have PX := hP.below hW
  obtain ⟨g1, g2, g3⟩ := blk_far PX.st.d PX.box (by decide) (by decide)
  obtain ⟨o1, o2, o3⟩ := blk_far PX.st.d PX.ob (by decide) (by decide)
  have bG : Blk w7 G 76 #[.int .i64 L.last, v] := (k4.block G PX.box.lt g1 g2 g3).trans PX.box
  have bO : Blk w7 O 63 ov := (k4.block O PX.ob.lt o1 o2 o3).trans PX.ob
  have lG := hP.box.lt
  have lO := hP.ob.lt
  have hs := hP.st.bel.size
  have B1 := BX.set_ 0 (.int .i64 L'.last)
  have keep : ∀ k, k ≠ wr.heap.size → ((w7.setCell ⟨wr.heap.size, 0, Option.none⟩ (.int .i64 L'.last)).setCell ⟨wr.heap.size, 1, Option.none⟩ v').heap[k]? = w7.heap[k]? := fun k hk => (Below.heap_setCell _ _ _ k hk).trans (Below.heap_setCell _ _ _ k hk)
  exact ⟨(k1.far BX (by decide) (by decide) (by decide) hs _).far B1 (by decide) (by decide) (by decide) hs _, k2.same (fun k hk => keep k (row_ne k2 BX (by decide) k hk)), k3, (keep G (by omega)).trans bG, ((BX.set_ 0 (.int .i64 L'.last)).set_ 1 v').eq (by simp), (keep O (by omega)).trans bO, hP.gw, by omega⟩
theorem q11_cells {w W : World} {O G X g mb : Nat} {fv : Value} {m : Int → Option Value} {L L' : Dt} {cs : List Cp} {v v' : Value} {ov : Array Value} (h : Q11 w W O G X g mb fv m L L' cs v v' ov) : W.cell? ⟨G, 0, Option.none⟩ = some (.int .i64 L.last) ∧ W.cell? ⟨G, 1, Option.none⟩ = some v ∧ (∀ i, W.frozen? ⟨G, i, Option.none⟩ = false) ∧ W.cell? ⟨X, 0, Option.none⟩ = some (.int .i64 L'.last) ∧ W.cell? ⟨X, 1, Option.none⟩ = some v' := by
  have e0 := h.box.cell 0
  have e1 := h.box.cell 1
  have e2 := h.xb.cell 0
  have e3 := h.xb.cell 1
  simp at e0 e1 e2 e3
  exact ⟨e0, e1, h.box.frozen, e2, e3⟩
/-- The document's box is written. -/
theorem q12 {w W : World} {O G X g mb : Nat} {fv : Value} {m : Int → Option Value} {L L' : Dt} {cs : List Cp} {v v' : Value} {ov : Array Value} (h : Q11 w W O G X g mb fv m L L' cs v v' ov) :
    PlD w ((W.setCell ⟨G, 0, Option.none⟩ (.int .i64 L'.last)).setCell ⟨G, 1, Option.none⟩ v') O G g mb fv m L' cs v' ov := by
  have B1 := h.box.set_ 0 (.int .i64 L'.last)
  have keep : ∀ k, k ≠ G → ((W.setCell ⟨G, 0, Option.none⟩ (.int .i64 L'.last)).setCell ⟨G, 1, Option.none⟩ v').heap[k]? = W.heap[k]? := fun k hk => (Below.heap_setCell _ _ _ k hk).trans (Below.heap_setCell _ _ _ k hk)
  have hOG : O ≠ G := fun e => by
    have h1 := h.ob
    rw [e] at h1
    have := h1.symm.trans h.box
    simp at this
  exact ⟨(h.st.far h.box (by decide) (by decide) (by decide) h.gw _).far B1 (by decide) (by decide) (by decide) h.gw _, h.row.same (fun k hk => keep k (row_ne h.row h.box (by decide) k hk)), h.ag, ((h.box.set_ 0 (.int .i64 L'.last)).set_ 1 v').eq (by simp), (keep O hOG).trans h.ob, h.gw⟩
theorem doR_len (L : Dt) (kd id : Int) (xs : List Int) (now : Int) : (doR L kd id xs now).fates.length ≤ L.fates.length + 1 := by
  unfold doR doubleR endR putR
  have hp : ∀ a b c d, (putD L a b c d).fates.length = L.fates.length + 1 := fun a b c d => by simp [putD]
  have he : ∀ a b c, (endD L a b c).fates.length = L.fates.length := fun a b c => by simp [endD]
  repeat' (first | split | (simp only [hp, he]; omega))
/-- The duct, and what lay when it was cloned. -/
theorem clone_st {w W W2 : World} {g2 mb2 : Nat} {fv2 : Value} {m : Int → Option Value} {L : Dt} (hb : Below w.heap.size w W) (h : IsDuct W2 g2 mb2 fv2 m L) (hb2 : Below W.heap.size W W2) (h1 : W.heap.size ≤ g2) (h2 : W.heap.size ≤ mb2) (h3 : ∀ k, fv2.ownBlock = some k → W.heap.size ≤ k) : St w W2 g2 mb2 fv2 m L := by
  have := hb.size
  exact ⟨h, by omega, by omega, fun k hk => by have := h3 k hk; omega, below_then hb hb.size hb2⟩
theorem clone_keep {W W2 W3 : World} {g2 mb2 : Nat} {fv2 : Value} (hb2 : Below W.heap.size W W2) (h1 : W.heap.size ≤ g2) (h2 : W.heap.size ≤ mb2) (h3 : ∀ k, fv2.ownBlock = some k → W.heap.size ≤ k) (k4 : Keeps W2 W3 g2 mb2 fv2) : Below W.heap.size W W3 :=
  ⟨k4.os.trans hb2.os, k4.tape.trans hb2.tape, k4.output.trans hb2.output, Nat.le_trans hb2.size k4.size, fun k hk => (k4.block k (Nat.lt_of_lt_of_le hk hb2.size) (by omega) (by omega) (fun e => by have := h3 k e; omega)).trans (hb2.block k hk)⟩
end Go.Proofs.Ytiphkgkhfomcaaa.Duct
