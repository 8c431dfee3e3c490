/- LedgerPlays: whatever is cut, sent once more, and comes once more, step by step a ledger tells what the document says; a clone goes its own way. -/
import Derived.Test.YtaokiocpfpdmkaaLedUndo
import Derived.Test.YtaokiocpfpdmkaaLedCounts
import Derived.Test.YtaokiocpfpdmkaaRegrown
import Derived.Deep.RegionHeld3
import Derived.Deep.DrawnRows
import Derived.BigRegion
import Derived.Deep.DeepCutAuto
set_option linter.unusedSimpArgs false
set_option linter.unusedVariables false
attribute [local go_sem ↓] Go.wp_at_zero Go.wp_at_succ
namespace Go.Proofs.Ytaokiocpfpdmkaa.Led
open Go.BigFrame Go.RowKit Go.OpenShut Go.Proofs.Ytaokiocpfpdmkaa.Aid Go.Proofs.Ytaokiocpfpdmkaa.Spans
abbrev Zero : Array Value := #[.bool false, .int .i64 0, .int .i64 0, .slice Option.none 0 0, .bool false]
/-- At the head of a round: the ledger, and the document's beside it, in a box. -/
structure RSt (w wr : World) (g h : Nat) (v : Value) (A : Option Addr) (c : Nat) (L : Led) : Prop where
  pair : Pair w wr g v (.slice A L.list.length c) L L
  box : Blk wr h 63 (cells L (.slice A L.list.length c))
  hh : w.heap.size ≤ h
  ne : g ≠ h
  vo : v.ownBlock ≠ some h
  uo : (Value.slice A L.list.length c).ownBlock ≠ some h
theorem RSt.below {w wr w' : World} {g h : Nat} {v : Value} {A : Option Addr} {c : Nat} {L : Led} (hR : RSt w wr g h v A c L) (hb : Below wr.heap.size wr w') : RSt w w' g h v A c L :=
  ⟨hR.pair.below hb, hR.box.below hb hR.box.lt, hR.hh, hR.ne, hR.vo, hR.uo⟩
/-- The clone, and what was. -/
structure CSt (wr w5 : World) (g2 bx : Nat) (v2 u : Value) (L : Led) : Prop where
  led : IsLed w5 g2 v2 L
  was : Blk w5 bx 63 (cells L u)
  gg : wr.heap.size ≤ g2
  vv : ∀ k, v2.ownBlock = some k → wr.heap.size ≤ k
  bb : wr.heap.size ≤ bx
  bel : Below wr.heap.size wr w5
theorem cst_new {wr Wc w4 : World} {g2 : Nat} {v2 u : Value} {L : Led} (hb : Below wr.heap.size wr Wc) (hl : IsLed w4 g2 v2 L) (b4 : Below Wc.heap.size Wc w4) (hg : Wc.heap.size ≤ g2) (hv : ∀ k, v2.ownBlock = some k → Wc.heap.size ≤ k) :
    CSt wr (w4.alloc (.cells (cells L u) 63)) g2 w4.heap.size v2 u L :=
  have e := hb.size
  have e2 := b4.size
  ⟨hl.below ((Below.refl _ w4).alloc (Nat.le_refl _) _), Blk.new w4 63 _, by omega, fun k hk => Nat.le_trans e (hv k hk), by omega, (below_then hb e b4).alloc (by omega) _⟩
theorem cst_set {wr Wc w4 : World} {g2 : Nat} {v2 u : Value} {L : Led} (b4 : Below Wc.heap.size Wc w4) (hb : Below wr.heap.size wr Wc) (hn : Blk Wc wr.heap.size 63 Zero) (hl : IsLed w4 g2 v2 L) (hg : Wc.heap.size ≤ g2) (hv : ∀ k, v2.ownBlock = some k → Wc.heap.size ≤ k) :
    CSt wr (((((w4.setCell ⟨wr.heap.size, 0, Option.none⟩ (.bool L.opn)).setCell ⟨wr.heap.size, 1, Option.none⟩ (.int .i64 L.cwnd)).setCell ⟨wr.heap.size, 2, Option.none⟩ (.int .i64 L.thresh)).setCell ⟨wr.heap.size, 3, Option.none⟩ u).setCell ⟨wr.heap.size, 4, Option.none⟩ (.bool L.spilt)) g2 wr.heap.size v2 u L := by
  have e := hb.size
  have e2 := b4.size
  have e3 := hn.lt
  have far : ∀ (x : World) (i : Nat) (z : Value), IsLed x g2 v2 L → IsLed (x.setCell ⟨wr.heap.size, i, Option.none⟩ z) g2 v2 L := fun x i z hx =>
    hx.far (kept_set (kept_refl x wr.heap.size (.slice Option.none 0 0)) i z) (by omega) (by simp [Value.ownBlock]) (fun e4 => by have := hv _ e4; omega) (fun k hk => by simp [Value.ownBlock])
  obtain ⟨p1, p2⟩ := put_five (w := wr) (o' := L.opn) (cw' := L.cwnd) (th' := L.thresh) (v' := u) (sp' := L.spilt) (hn.below b4 hn.lt) (below_then hb e b4) (Nat.le_refl _)
  exact ⟨far _ _ _ (far _ _ _ (far _ _ _ (far _ _ _ (far _ _ _ hl)))), p1, by omega, fun k hk => Nat.le_trans e (hv k hk), Nat.le_refl _, p2⟩
/-- Behind an operation. -/
structure QSt (w wr w7 : World) (g h g2 bx nx : Nat) (v v2 u : Value) (A : Option Addr) (c : Nat) (L L' : Led) (old : Array Value) : Prop where
  pair : Pair w w7 g v (.slice A L'.list.length c) L' L'
  box : Blk w7 h 63 old
  nb : Blk w7 nx 63 (cells L' (.slice A L'.list.length c))
  led : IsLed w7 g2 v2 L
  was : Blk w7 bx 63 (cells L u)
  gg : wr.heap.size ≤ g2
  vv : ∀ k, v2.ownBlock = some k → wr.heap.size ≤ k
  bb : wr.heap.size ≤ bx
  hl : h < wr.heap.size
  vo : v.ownBlock ≠ some h
  uo : (Value.slice A L'.list.length c).ownBlock ≠ some h
theorem kept_blk {w w' : World} {g : Nat} {v : Value} {x : Nat} {t : TypeId} {cs : Array Value} (h : Blk w x t cs) (hk : Kept w w' g v) (h2 : x ≠ g) (h3 : v.ownBlock ≠ some x) : Blk w' x t cs :=
  (hk.block x h.lt h2 h3).trans h
theorem kept_cell_at {w w' : World} {g : Nat} {v : Value} (hk : Kept w w' g v) (p : Addr) (h1 : p.block < w.heap.size) (h2 : p.block ≠ g) (h3 : v.ownBlock ≠ some p.block) : w'.cell? p = w.cell? p := by
  unfold World.cell?
  have := hk.block p.block h1 h2 h3
  rw [this]
/-- What an operation leaves, ahead of its box. -/
theorem qst_core {w wr w5 Wc w6 : World} {g h g2 bx : Nat} {v v' v2 : Value} {A A' : Option Addr} {c c' : Nat} {L L' : Led} (hR : RSt w wr g h v A c L) (hC : CSt wr w5 g2 bx v2 (.slice A L.list.length c) L) (hb : Below w5.heap.size w5 Wc)
    (hP : Pair w w6 g v' (.slice A' L'.list.length c') L' L') (hk : Kept Wc w6 g v) (hv : ∀ k, v'.ownBlock = some k → v.ownBlock = some k ∨ Wc.heap.size ≤ k) (hu : ∀ k, (Value.slice A' L'.list.length c').ownBlock = some k → (Value.slice A L.list.length c).ownBlock = some k ∨ Wc.heap.size ≤ k) :
    Blk w6 h 63 (cells L (.slice A L.list.length c)) ∧ IsLed w6 g2 v2 L ∧ Blk w6 bx 63 (cells L (.slice A L.list.length c)) ∧ h < wr.heap.size ∧ v'.ownBlock ≠ some h ∧ (Value.slice A' L'.list.length c').ownBlock ≠ some h := by
  have e0 := hR.box.lt
  have e1 := hC.bel.size
  have e2 := hb.size
  have e3 := hR.pair.st.led.box.lt
  have e4 := hC.bb
  have e5 := hC.gg
  have e6 : ∀ k, v.ownBlock = some k → k < wr.heap.size := fun k hk => hR.pair.st.led.row.lt k hk
  refine ⟨kept_blk ((hR.box.below hC.bel e0).below hb (by omega)) hk hR.ne.symm hR.vo, (hC.led.below hb).far hk (by omega) (fun e => by have := e6 _ e; omega) (fun e => by have := hC.vv _ e; omega) (fun k hk2 e => by have := hC.vv _ hk2; have := e6 _ e; omega),
    kept_blk (hC.was.below hb hC.was.lt) hk (by omega) (fun e => by have := e6 _ e; omega), e0, fun e => ?_, fun e => ?_⟩
  · rcases hv _ e with h1 | h1
    · exact hR.vo h1
    · omega
  · rcases hu _ e with h1 | h1
    · exact hR.uo h1
    · omega
theorem qst_new {w wr w5 Wc w6 : World} {g h g2 bx : Nat} {v v' v2 : Value} {A A' : Option Addr} {c c' : Nat} {L L' : Led} (hR : RSt w wr g h v A c L) (hC : CSt wr w5 g2 bx v2 (.slice A L.list.length c) L) (hk : Kept Wc w6 g v) (hb : Below w5.heap.size w5 Wc)
    (hP : Pair w w6 g v' (.slice A' L'.list.length c') L' L') (hv : ∀ k, v'.ownBlock = some k → v.ownBlock = some k ∨ Wc.heap.size ≤ k) (hu : ∀ k, (Value.slice A' L'.list.length c').ownBlock = some k → (Value.slice A L.list.length c).ownBlock = some k ∨ Wc.heap.size ≤ k) :
    QSt w wr (w6.alloc (.cells (cells L' (.slice A' L'.list.length c')) 63)) g h g2 bx w6.heap.size v' v2 (.slice A L.list.length c) A' c' L L' (cells L (.slice A L.list.length c)) := by
  obtain ⟨q1, q2, q3, q4, q5, q6⟩ := qst_core hR hC hb hP hk hv hu
  exact ⟨hP.below ((Below.refl _ w6).alloc (Nat.le_refl _) _), q1.alloc _, Blk.new w6 63 _, q2.below ((Below.refl _ w6).alloc (Nat.le_refl _) _), q3.alloc _, hC.gg, hC.vv, hC.bb, q4, q5, q6⟩
theorem qst_set {w wr w5 Wc w6 : World} {g h g2 bx : Nat} {v v' v2 : Value} {A A' : Option Addr} {c c' : Nat} {L L' : Led} (hR : RSt w wr g h v A c L) (hC : CSt wr w5 g2 bx v2 (.slice A L.list.length c) L) (hk : Kept Wc w6 g v) (hb : Below w5.heap.size w5 Wc) (hn : Blk Wc w5.heap.size 63 Zero)
    (hP : Pair w w6 g v' (.slice A' L'.list.length c') L' L') (hv : ∀ k, v'.ownBlock = some k → v.ownBlock = some k ∨ Wc.heap.size ≤ k) (hu : ∀ k, (Value.slice A' L'.list.length c').ownBlock = some k → (Value.slice A L.list.length c).ownBlock = some k ∨ Wc.heap.size ≤ k) :
    QSt w wr (((((w6.setCell ⟨w5.heap.size, 0, Option.none⟩ (.bool L'.opn)).setCell ⟨w5.heap.size, 1, Option.none⟩ (.int .i64 L'.cwnd)).setCell ⟨w5.heap.size, 2, Option.none⟩ (.int .i64 L'.thresh)).setCell ⟨w5.heap.size, 3, Option.none⟩ (.slice A' L'.list.length c')).setCell ⟨w5.heap.size, 4, Option.none⟩ (.bool L'.spilt)) g h g2 bx w5.heap.size v' v2 (.slice A L.list.length c) A' c' L L' (cells L (.slice A L.list.length c)) := by
  obtain ⟨q1, q2, q3, q4, q5, q6⟩ := qst_core hR hC hb hP hk hv hu
  have e0 := hR.box.lt
  have e1 := hC.bel.size
  have e2 := hb.size
  have e3 := hR.pair.st.led.box.lt
  have e6 : ∀ k, v.ownBlock = some k → k < wr.heap.size := fun k hk => hR.pair.st.led.row.lt k hk
  have e7 : ∀ k, (Value.slice A L.list.length c).ownBlock = some k → k < wr.heap.size := fun k hk => hR.pair.row.lt k hk
  have e8 := hC.led.box.lt
  have e9 := hC.was.lt
  have e10 := hn.lt
  have e11 := hR.pair.st.bel.size
  have hv5 : v'.ownBlock ≠ some w5.heap.size := fun e => by
    rcases hv _ e with h1 | h1
    · have := e6 _ h1; omega
    · omega
  have hu5 : (Value.slice A' L'.list.length c').ownBlock ≠ some w5.heap.size := fun e => by
    rcases hu _ e with h1 | h1
    · have := e7 _ h1; omega
    · omega
  have far : ∀ (x : World) (i : Nat) (z : Value), IsLed x g2 v2 L → IsLed (x.setCell ⟨w5.heap.size, i, Option.none⟩ z) g2 v2 L := fun x i z hx =>
    hx.far (kept_set (kept_refl x w5.heap.size (.slice Option.none 0 0)) i z) (by omega) (by simp [Value.ownBlock]) (fun e4 => by have := hC.led.row.lt _ e4; omega) (fun k hk => by simp [Value.ownBlock])
  have nb := kept_blk hn hk (by omega) (fun e => by have := e6 _ e; omega)
  refine ⟨((((hP.set_ (by omega) (by omega) hv5 hu5 _ _).set_ (by omega) (by omega) hv5 hu5 _ _).set_ (by omega) (by omega) hv5 hu5 _ _).set_ (by omega) (by omega) hv5 hu5 _ _).set_ (by omega) (by omega) hv5 hu5 _ _, ?_, ?_, far _ _ _ (far _ _ _ (far _ _ _ (far _ _ _ (far _ _ _ q2)))), ?_, hC.gg, hC.vv, hC.bb, q4, q5, q6⟩
  · exact ((((q1.far (by simp only; omega) _).far (by simp only; omega) _).far (by simp only; omega) _).far (by simp only; omega) _).far (by simp only; omega) _
  · exact (((((nb.set_ 0 _).set_ 1 _).set_ 2 _).set_ 3 _).set_ 4 _).eq (by simp [cells])
  · exact ((((q3.far (by simp only; omega) _).far (by simp only; omega) _).far (by simp only; omega) _).far (by simp only; omega) _).far (by simp only; omega) _
/-- What is told goes into the document's box. -/
structure NSt (w w8 : World) (g h g2 bx : Nat) (v v2 u : Value) (A : Option Addr) (c : Nat) (L L' : Led) : Prop where
  st : RSt w w8 g h v A c L'
  led : IsLed w8 g2 v2 L
  was : Blk w8 bx 63 (cells L u)
theorem QSt.next {w wr w7 : World} {g h g2 bx nx : Nat} {v v2 u : Value} {A : Option Addr} {c : Nat} {L L' : Led} {z0 z1 z2 z3 z4 : Value} (hQ : QSt w wr w7 g h g2 bx nx v v2 u A c L L' #[z0, z1, z2, z3, z4]) (hh : w.heap.size ≤ h) (hg : g ≠ h) :
    NSt w (((((w7.setCell ⟨h, 0, Option.none⟩ (.bool L'.opn)).setCell ⟨h, 1, Option.none⟩ (.int .i64 L'.cwnd)).setCell ⟨h, 2, Option.none⟩ (.int .i64 L'.thresh)).setCell ⟨h, 3, Option.none⟩ (.slice A L'.list.length c)).setCell ⟨h, 4, Option.none⟩ (.bool L'.spilt)) g h g2 bx v v2 u A c L L' := by
  have e1 := hQ.hl
  have e2 := hQ.gg
  have e3 := hQ.bb
  have far : ∀ (x : World) (i : Nat) (z : Value), IsLed x g2 v2 L → IsLed (x.setCell ⟨h, i, Option.none⟩ z) g2 v2 L := fun x i z hx =>
    hx.far (kept_set (kept_refl x h (.slice Option.none 0 0)) i z) (by omega) (by simp [Value.ownBlock]) (fun e4 => by have := hQ.vv _ e4; omega) (fun k hk => by simp [Value.ownBlock])
  refine ⟨⟨((((hQ.pair.set_ hh hg hQ.vo hQ.uo _ _).set_ hh hg hQ.vo hQ.uo _ _).set_ hh hg hQ.vo hQ.uo _ _).set_ hh hg hQ.vo hQ.uo _ _).set_ hh hg hQ.vo hQ.uo _ _, ?_, hh, hg, hQ.vo, hQ.uo⟩, far _ _ _ (far _ _ _ (far _ _ _ (far _ _ _ (far _ _ _ hQ.led)))), ?_⟩
  · exact (((((hQ.box.set_ 0 _).set_ 1 _).set_ 2 _).set_ 3 _).set_ 4 _).eq (by simp [cells])
  · exact ((((hQ.was.far (by simp only; omega) _).far (by simp only; omega) _).far (by simp only; omega) _).far (by simp only; omega) _).far (by simp only; omega) _
set_option maxRecDepth 100000 in
set_option maxHeartbeats 8000000 in
theorem plays_walk (O : Option Addr) (oc : Nat) (ops : List Op) (w : World) (hn : ops.length ≤ maxLen) (hw : ∀ o ∈ ops, WfOp o) (hr : Aid.Reps w O 5 encOp ops) :
    Calls Try.prog 9 #[.slice O ops.length oc] w (Yes w) := by
  unfold maxLen at hn
  have HR := Lib.hid hr
  have HW := Lib.hid hw
  clear hr hw
  go_enter Try.func9, Try.ntmps9
  go_wp2_with fail
  refine (known_calls _).mono ?_
  rintro e w1 ⟨rfl, b1⟩
  go_wp2_with fail
  refine (new_calls _).mono ?_
  rintro e w2 ⟨rfl, hL, b2, hg, hlt⟩
  have S2 : St w w2 w1.heap.size (.slice Option.none 0 0) ⟨false, 0, 0, [], false⟩ := ⟨hL, b1.size, by simp [Value.ownBlock], below_then b1 b1.size b2⟩
  have R3 : RSt w (w2.alloc (.cells Zero 63)) w1.heap.size w2.heap.size (.slice Option.none 0 0) Option.none 0 ⟨false, 0, 0, [], false⟩ :=
    ⟨⟨S2.below ((Below.refl _ w2).alloc (Nat.le_refl _) _), .inl ⟨rfl, rfl⟩, fun b e => by simp [Value.ownBlock] at e⟩, Blk.new w2 63 _, S2.bel.size, by have := hL.box.lt; omega, by simp [Value.ownBlock], by simp [Value.ownBlock]⟩
  have R3 := Lib.hid R3
  go_wp2_with fail
  clear S2 b2 hL hlt hg b1
  revert R3
  unfold Zero
  generalize w2.alloc (.cells #[.bool false, .int .i64 0, .int .i64 0, .slice Option.none 0 0, .bool false] 63) = w3
  generalize w2.heap.size = h
  generalize w1.heap.size = g
  intro R3
  obtain ⟨nx, hnx⟩ : ∃ nx, ops.length = nx := ⟨_, rfl⟩
  have HNX := Lib.hid hnx
  rw [hnx] at hn ⊢
  clear hnx
  go_loopw [5] (fun i wr => ∃ (k : Nat) (v : Value) (A : Option Addr) (c : Nat) (L : Led), k ≤ nx ∧ k ≤ 600 ∧ i = .int .i64 k ∧ Hid (RSt w wr g h v A c L)) (fun i _ => nx - (intOf i).toNat)
  case atStart => exact ⟨0, _, _, _, _, by omega, by omega, rfl, R3⟩
  case round =>
    obtain ⟨k, v, A, c, L, hk, hk2, rfl, hR⟩ := hrel
    clear R3
    by_cases hlt : k < nx ∧ k < 600
    · obtain ⟨hlt, hlt2⟩ := hlt
      have d1 : decide ((k : Int) < (nx : Int)) = true := decide_eq_true (by omega)
      have d2 : decide ((k : Int) < 600) = true := decide_eq_true (by omega)
      go_upto_region 8 with fail
      go_cut [6, 7] (fun s6 s7 wx => ∃ (g2 bx : Nat) (v2 : Value), s6 = .pointer (some ⟨g2, 0, Option.none⟩) ∧ s7 = .pointer (some ⟨bx, 0, Option.none⟩) ∧ Hid (CSt wr wx g2 bx v2 (.slice A L.list.length c) L))
      case first =>
        have x0 := hR.out.box.cell 0
        have x1 := hR.out.box.cell 1
        have x2 := hR.out.box.cell 2
        have x3 := hR.out.box.cell 3
        have x4 := hR.out.box.cell 4
        simp [cells] at x0 x1 x2 x3 x4
        have CC := Lib.hid (fun (W : World) (hb : Below wr.heap.size wr W) => clone_calls g v L W (hR.out.pair.below hb).st.led)
        have hhl := hR.out.box.lt
        have AFT := Lib.hid (fun (W w4 : World) (hb : Below wr.heap.size wr W) (b4 : Below W.heap.size W w4) => show (w4.cell? ⟨h, 0, Option.none⟩ = some (.bool L.opn) ∧ w4.cell? ⟨h, 1, Option.none⟩ = some (.int .i64 L.cwnd) ∧ w4.cell? ⟨h, 2, Option.none⟩ = some (.int .i64 L.thresh) ∧ w4.cell? ⟨h, 3, Option.none⟩ = some (.slice A L.list.length c) ∧ w4.cell? ⟨h, 4, Option.none⟩ = some (.bool L.spilt)) from by
          have hb4 := below_then hb hb.size b4
          exact ⟨(hb4.cell (p := ⟨h, 0, Option.none⟩) hhl).trans x0, (hb4.cell (p := ⟨h, 1, Option.none⟩) hhl).trans x1, (hb4.cell (p := ⟨h, 2, Option.none⟩) hhl).trans x2, (hb4.cell (p := ⟨h, 3, Option.none⟩) hhl).trans x3, (hb4.cell (p := ⟨h, 4, Option.none⟩) hhl).trans x4⟩)
        have nw3 : ¬ wr.heap.size = h := by omega
        have nw4 : ¬ h = wr.heap.size := by omega
        have BX := Lib.hid (Blk.new wr 63 Zero)
        have hlz : L.list.length ≤ 256 := hR.out.pair.st.led.row.1
        go_region_held3 (fun w' => w'.cell? ⟨h, 0, Option.none⟩ = some (.bool L.opn) ∧ w'.cell? ⟨h, 1, Option.none⟩ = some (.int .i64 L.cwnd) ∧ w'.cell? ⟨h, 2, Option.none⟩ = some (.int .i64 L.thresh) ∧ w'.cell? ⟨h, 3, Option.none⟩ = some (.slice A L.list.length c) ∧ w'.cell? ⟨h, 4, Option.none⟩ = some (.bool L.spilt)) (go_keep) ((go_at_call 31; refine (CC.out _ (by first | exact (Below.refl _ _).drew | exact (Below.refl _ _).drew.drew | exact ((Below.refl _ _).alloc (Nat.le_refl _) _).drew | exact ((Below.refl _ _).alloc (Nat.le_refl _) _) | exact ((Below.refl _ _).drew.alloc (by simp) _) | exact ((Below.refl _ _).drew.alloc (by simp) _).drew | exact ((Below.refl _ _).alloc (Nat.le_refl _) _).drew.drew)).mono ?_; rintro e w4 ⟨g2, v2, rfl, l4, b4, hg4, hv4⟩; obtain ⟨y0, y1, y2, y3, y4⟩ := AFT.out _ _ (by first | exact (Below.refl _ _).drew | exact (Below.refl _ _).drew.drew | exact ((Below.refl _ _).alloc (Nat.le_refl _) _).drew | exact ((Below.refl _ _).alloc (Nat.le_refl _) _) | exact ((Below.refl _ _).drew.alloc (by simp) _) | exact ((Below.refl _ _).drew.alloc (by simp) _).drew | exact ((Below.refl _ _).alloc (Nat.le_refl _) _).drew.drew) b4; have L4 := Lib.hid l4; have B4 := Lib.hid b4; have G4 := Lib.hid hg4; have V4 := Lib.hid hv4; (try (have t0 : w4.cell? ⟨wr.heap.size, 0, Option.none⟩ = some (.bool false) := (b4.cell (p := ⟨wr.heap.size, 0, Option.none⟩) (by simp)).trans (BX.out.cell 0); have t1 : w4.cell? ⟨wr.heap.size, 1, Option.none⟩ = some (.int .i64 0) := (b4.cell (p := ⟨wr.heap.size, 1, Option.none⟩) (by simp)).trans (BX.out.cell 1); have t2 : w4.cell? ⟨wr.heap.size, 2, Option.none⟩ = some (.int .i64 0) := (b4.cell (p := ⟨wr.heap.size, 2, Option.none⟩) (by simp)).trans (BX.out.cell 2); have t3 : w4.cell? ⟨wr.heap.size, 3, Option.none⟩ = some (.slice Option.none 0 0) := (b4.cell (p := ⟨wr.heap.size, 3, Option.none⟩) (by simp)).trans (BX.out.cell 3); have t4 : w4.cell? ⟨wr.heap.size, 4, Option.none⟩ = some (.bool false) := (b4.cell (p := ⟨wr.heap.size, 4, Option.none⟩) (by simp)).trans (BX.out.cell 4); have tf : ∀ i, w4.frozen? ⟨wr.heap.size, i, Option.none⟩ = false := fun i => (b4.frozen (p := ⟨wr.heap.size, i, Option.none⟩) (by simp)).trans (BX.out.frozen i))); clear l4 b4 hg4 hv4))
        all_goals
          first
          | (have tt := t0
             clear tt
             have C := Lib.hid (cst_set (wr := wr) (u := .slice A L.list.length c) B4.out (by first | exact (Below.refl _ _).drew | exact (Below.refl _ _).drew.drew | exact ((Below.refl _ _).alloc (Nat.le_refl _) _).drew | exact ((Below.refl _ _).alloc (Nat.le_refl _) _) | exact ((Below.refl _ _).drew.alloc (by simp) _) | exact ((Below.refl _ _).drew.alloc (by simp) _).drew | exact ((Below.refl _ _).alloc (Nat.le_refl _) _).drew.drew) BX.out L4.out G4.out V4.out)
             revert C
             generalize hw5 : ((((w4.setCell ⟨wr.heap.size, 0, Option.none⟩ (.bool L.opn)).setCell ⟨wr.heap.size, 1, Option.none⟩ (.int .i64 L.cwnd)).setCell ⟨wr.heap.size, 2, Option.none⟩ (.int .i64 L.thresh)).setCell ⟨wr.heap.size, 3, Option.none⟩ (.slice A L.list.length c)).setCell ⟨wr.heap.size, 4, Option.none⟩ (.bool L.spilt) = w5
             clear hw5
             generalize wr.heap.size = bx
             intro C)
          | (have C := Lib.hid (cst_new (wr := wr) (u := .slice A L.list.length c) (by first | exact (Below.refl _ _).drew | exact (Below.refl _ _).drew.drew | exact ((Below.refl _ _).alloc (Nat.le_refl _) _).drew | exact ((Below.refl _ _).alloc (Nat.le_refl _) _) | exact ((Below.refl _ _).drew.alloc (by simp) _) | exact ((Below.refl _ _).drew.alloc (by simp) _).drew | exact ((Below.refl _ _).alloc (Nat.le_refl _) _).drew.drew) L4.out B4.out G4.out V4.out)
             revert C
             unfold cells
             generalize w4.heap.size = bx
             generalize w4.alloc _ = w5
             intro C)
          go_wp2_with fail
          go_meet
          exact ⟨_, _, _, rfl, rfl, C⟩
      case rest =>
        obtain ⟨g2, bx, v2, rfl, rfl, C⟩ := hcut
        have hlz : L.list.length ≤ 256 := hR.out.pair.st.led.row.1
        go_upto_region 9 with fail
        go_cut [8, 9] (fun s8 s9 wx => ∃ (nb : Nat) (v' : Value) (A' : Option Addr) (c' : Nat) (L' : Led), s8 = .pointer (some ⟨nb, 0, Option.none⟩) ∧ s9 = .bool true ∧ Hid (QSt w wr wx g h g2 bx nb v' v2 (.slice A L.list.length c) A' c' L L' (cells L (.slice A L.list.length c))))
        case first =>
          have R5 := Lib.hid (hR.out.below C.out.bel)
          obtain ⟨y, hy⟩ : ∃ y, ops[k]? = some y := ⟨_, List.getElem?_eq_getElem (by rw [HNX.out]; exact hlt)⟩
          have ⟨kb0, kb1⟩ := HW.out y (List.mem_of_getElem? hy)
          have hbel := R5.out.pair.st.bel
          obtain ⟨ad, rfl, had, hcell⟩ := HR.out k y hy
          have cc : ∀ (j : Nat) (v : Value), (encOp y)[j]? = some v → wc.cell? (ad.add (k * 5 + j)) = some v := fun j v hv => by
            obtain ⟨ad', e, _, hc⟩ := (HR.out.below hbel) k y hy
            cases e
            exact hc j v hv
          have c0 : wc.cell? (ad.add (k * 5)) = some (.int .u8 y.kind) := cc 0 _ rfl
          have c1 : wc.cell? ⟨(ad.add (k * 5)).block, (ad.add (k * 5)).off + 1, Option.none⟩ = some (.int .i64 y.a) := (add_next ad (k * 5) 1 (by omega)) ▸ cc 1 _ rfl
          have c2 : wc.cell? ⟨(ad.add (k * 5)).block, (ad.add (k * 5)).off + 2, Option.none⟩ = some (.int .i64 y.b) := (add_next ad (k * 5) 2 (by omega)) ▸ cc 2 _ rfl
          have c3 : wc.cell? ⟨(ad.add (k * 5)).block, (ad.add (k * 5)).off + 3, Option.none⟩ = some (.int .i64 y.span.lo) := (add_next ad (k * 5) 3 (by omega)) ▸ cc 3 _ rfl
          have c4 : wc.cell? ⟨(ad.add (k * 5)).block, (ad.add (k * 5)).off + 4, Option.none⟩ = some (.int .i64 y.span.hi) := (add_next ad (k * 5) 4 (by omega)) ▸ cc 4 _ rfl
          have x0 := R5.out.box.cell 0
          have x1 := R5.out.box.cell 1
          have x2 := R5.out.box.cell 2
          have x3 := R5.out.box.cell 3
          have x4 := R5.out.box.cell 4
          simp [cells] at x0 x1 x2 x3 x4
          have DC := Lib.hid (fun (W : World) (hb : Below wc.heap.size wc W) => does_calls w W g v A L.list.length c L y.kind y.a y.b y.span (R5.out.pair.below hb) kb0 kb1)
          unfold byVal opVal at DC
          have q0 : (0 : Int) ≤ (k : Int) := by omega
          have q1 : (k : Int) < (nx : Int) := by omega
          have hbox := R5.out.box.lt
          have nh1 : h ≠ g := R5.out.ne.symm
          have hab : (ad.add (k * 5)).block = ad.block := by unfold Addr.add; split <;> rfl
          have AFT := Lib.hid (fun (W w6 : World) (hb : Below wc.heap.size wc W) (hk : Kept W w6 g v) => show (w6.cell? ⟨h, 0, Option.none⟩ = some (.bool L.opn) ∧ w6.cell? ⟨h, 1, Option.none⟩ = some (.int .i64 L.cwnd) ∧ w6.cell? ⟨h, 2, Option.none⟩ = some (.int .i64 L.thresh) ∧ w6.cell? ⟨h, 3, Option.none⟩ = some (.slice A L.list.length c) ∧ w6.cell? ⟨h, 4, Option.none⟩ = some (.bool L.spilt) ∧ w6.cell? (ad.add (k * 5)) = some (.int .u8 y.kind) ∧ w6.cell? ⟨(ad.add (k * 5)).block, (ad.add (k * 5)).off + 1, Option.none⟩ = some (.int .i64 y.a) ∧ w6.cell? ⟨(ad.add (k * 5)).block, (ad.add (k * 5)).off + 2, Option.none⟩ = some (.int .i64 y.b) ∧ w6.cell? ⟨(ad.add (k * 5)).block, (ad.add (k * 5)).off + 3, Option.none⟩ = some (.int .i64 y.span.lo) ∧ w6.cell? ⟨(ad.add (k * 5)).block, (ad.add (k * 5)).off + 4, Option.none⟩ = some (.int .i64 y.span.hi)) from by
            have hz := hb.size
            have hz2 := hbel.size
            have hg := R5.out.pair.st.gb
            have hv0 := R5.out.vo
            have hv1 : v.ownBlock ≠ some ad.block := fun e => by have := R5.out.pair.st.vb _ e; omega
            refine ⟨?_, ?_, ?_, ?_, ?_, ?_, ?_, ?_, ?_, ?_⟩
            · exact (kept_cell hk 0 (by omega) nh1 hv0).trans ((hb.cell (p := ⟨h, 0, Option.none⟩) hbox).trans x0)
            · exact (kept_cell hk 1 (by omega) nh1 hv0).trans ((hb.cell (p := ⟨h, 1, Option.none⟩) hbox).trans x1)
            · exact (kept_cell hk 2 (by omega) nh1 hv0).trans ((hb.cell (p := ⟨h, 2, Option.none⟩) hbox).trans x2)
            · exact (kept_cell hk 3 (by omega) nh1 hv0).trans ((hb.cell (p := ⟨h, 3, Option.none⟩) hbox).trans x3)
            · exact (kept_cell hk 4 (by omega) nh1 hv0).trans ((hb.cell (p := ⟨h, 4, Option.none⟩) hbox).trans x4)
            · exact (kept_cell_at hk (ad.add (k * 5)) (by rw [hab]; omega) (by rw [hab]; omega) (by rw [hab]; exact hv1)).trans ((hb.cell (p := ad.add (k * 5)) (by rw [hab]; omega)).trans c0)
            · exact (kept_cell hk _ (by rw [hab]; omega) (by rw [hab]; omega) (by rw [hab]; exact hv1)).trans ((hb.cell (p := ⟨(ad.add (k * 5)).block, (ad.add (k * 5)).off + 1, Option.none⟩) (by simp only; omega)).trans c1)
            · exact (kept_cell hk _ (by rw [hab]; omega) (by rw [hab]; omega) (by rw [hab]; exact hv1)).trans ((hb.cell (p := ⟨(ad.add (k * 5)).block, (ad.add (k * 5)).off + 2, Option.none⟩) (by simp only; omega)).trans c2)
            · exact (kept_cell hk _ (by rw [hab]; omega) (by rw [hab]; omega) (by rw [hab]; exact hv1)).trans ((hb.cell (p := ⟨(ad.add (k * 5)).block, (ad.add (k * 5)).off + 3, Option.none⟩) (by simp only; omega)).trans c3)
            · exact (kept_cell hk _ (by rw [hab]; omega) (by rw [hab]; omega) (by rw [hab]; exact hv1)).trans ((hb.cell (p := ⟨(ad.add (k * 5)).block, (ad.add (k * 5)).off + 4, Option.none⟩) (by simp only; omega)).trans c4)
          )
          have nw1 : wc.heap.size ≠ g := by have := R5.out.pair.st.led.box.lt; omega
          have nw2 : v.ownBlock ≠ some wc.heap.size := fun e => by have := R5.out.pair.st.led.row.lt _ e; omega
          have nw3 : ¬ wc.heap.size = h := by omega
          have nw4 : ¬ h = wc.heap.size := by omega
          have nwc : ¬ wc.heap.size = (ad.add (k * 5)).block := by rw [hab]; have := hbel.size; omega
          have nw6 : ¬ (ad.add (k * 5)).block = wc.heap.size := by rw [hab]; have := hbel.size; omega
          have BX := Lib.hid (Blk.new wc 63 Zero)
          clear hab cc had hbel hcell hy
          have NW := Lib.hid (And.intro nw1 nw2)
          clear nw1 nw2
          go_region_held3 (fun w' => w'.cell? ⟨h, 0, Option.none⟩ = some (.bool L.opn) ∧ w'.cell? ⟨h, 1, Option.none⟩ = some (.int .i64 L.cwnd) ∧ w'.cell? ⟨h, 2, Option.none⟩ = some (.int .i64 L.thresh) ∧ w'.cell? ⟨h, 3, Option.none⟩ = some (.slice A L.list.length c) ∧ w'.cell? ⟨h, 4, Option.none⟩ = some (.bool L.spilt) ∧ w'.cell? (ad.add (k * 5)) = some (.int .u8 y.kind) ∧ w'.cell? ⟨(ad.add (k * 5)).block, (ad.add (k * 5)).off + 1, Option.none⟩ = some (.int .i64 y.a) ∧ w'.cell? ⟨(ad.add (k * 5)).block, (ad.add (k * 5)).off + 2, Option.none⟩ = some (.int .i64 y.b) ∧ w'.cell? ⟨(ad.add (k * 5)).block, (ad.add (k * 5)).off + 3, Option.none⟩ = some (.int .i64 y.span.lo) ∧ w'.cell? ⟨(ad.add (k * 5)).block, (ad.add (k * 5)).off + 4, Option.none⟩ = some (.int .i64 y.span.hi)) (go_keep) ((go_at_call 32; refine (DC.out _ (by first | exact (Below.refl _ _).drew | exact (Below.refl _ _).drew.drew | exact ((Below.refl _ _).alloc (Nat.le_refl _) _).drew | exact ((Below.refl _ _).alloc (Nat.le_refl _) _) | exact ((Below.refl _ _).drew.alloc (by simp) _) | exact ((Below.refl _ _).drew.alloc (by simp) _).drew | exact ((Below.refl _ _).alloc (Nat.le_refl _) _).drew.drew)).mono ?_; rintro e w6 ⟨A', n', c', v', L', rfl, p6, k6, o6, u6⟩; obtain ⟨v0, v1, v2_, v3, v4, v5, v6, v7, v8, v9⟩ := AFT.out _ _ (by first | exact (Below.refl _ _).drew | exact (Below.refl _ _).drew.drew | exact ((Below.refl _ _).alloc (Nat.le_refl _) _).drew | exact ((Below.refl _ _).alloc (Nat.le_refl _) _) | exact ((Below.refl _ _).drew.alloc (by simp) _) | exact ((Below.refl _ _).drew.alloc (by simp) _).drew | exact ((Below.refl _ _).alloc (Nat.le_refl _) _).drew.drew) k6; have P6 := Lib.hid p6; have K6 := Lib.hid k6; have O6 := Lib.hid o6; have U6 := Lib.hid u6; (try (have t0 : w6.cell? ⟨wc.heap.size, 0, Option.none⟩ = some (.bool false) := (kept_cell k6 0 (by simp) NW.out.1 NW.out.2).trans (BX.out.cell 0); have t1 : w6.cell? ⟨wc.heap.size, 1, Option.none⟩ = some (.int .i64 0) := (kept_cell k6 1 (by simp) NW.out.1 NW.out.2).trans (BX.out.cell 1); have t2 : w6.cell? ⟨wc.heap.size, 2, Option.none⟩ = some (.int .i64 0) := (kept_cell k6 2 (by simp) NW.out.1 NW.out.2).trans (BX.out.cell 2); have t3 : w6.cell? ⟨wc.heap.size, 3, Option.none⟩ = some (.slice Option.none 0 0) := (kept_cell k6 3 (by simp) NW.out.1 NW.out.2).trans (BX.out.cell 3); have t4 : w6.cell? ⟨wc.heap.size, 4, Option.none⟩ = some (.bool false) := (kept_cell k6 4 (by simp) NW.out.1 NW.out.2).trans (BX.out.cell 4); have tf : ∀ i, w6.frozen? ⟨wc.heap.size, i, Option.none⟩ = false := fun i => (kept_frozen k6 i (by simp) NW.out.1 NW.out.2).trans (BX.out.frozen i))); clear p6 k6 o6 u6; unfold byVal))
          all_goals
            have hs6 : n' = L'.list.length := by
              obtain ⟨_, _, hs6, _⟩ := P6.out.row.slice
              injection hs6
            subst hs6
            first
            | (have tt := t0
               clear tt
               have Q := Lib.hid (qst_set hR.out C.out K6.out (by first | exact (Below.refl _ _).drew | exact (Below.refl _ _).drew.drew | exact ((Below.refl _ _).alloc (Nat.le_refl _) _).drew | exact ((Below.refl _ _).alloc (Nat.le_refl _) _) | exact ((Below.refl _ _).drew.alloc (by simp) _) | exact ((Below.refl _ _).drew.alloc (by simp) _).drew | exact ((Below.refl _ _).alloc (Nat.le_refl _) _).drew.drew) BX.out P6.out O6.out U6.out)
               revert Q
               generalize hw7 : ((((w6.setCell ⟨wc.heap.size, 0, Option.none⟩ (.bool L'.opn)).setCell ⟨wc.heap.size, 1, Option.none⟩ (.int .i64 L'.cwnd)).setCell ⟨wc.heap.size, 2, Option.none⟩ (.int .i64 L'.thresh)).setCell ⟨wc.heap.size, 3, Option.none⟩ (.slice A' L'.list.length c')).setCell ⟨wc.heap.size, 4, Option.none⟩ (.bool L'.spilt) = w7
               clear hw7
               generalize wc.heap.size = nb
               intro Q)
            | (have Q := Lib.hid (qst_new hR.out C.out K6.out (by first | exact (Below.refl _ _).drew | exact (Below.refl _ _).drew.drew | exact ((Below.refl _ _).alloc (Nat.le_refl _) _).drew | exact ((Below.refl _ _).alloc (Nat.le_refl _) _) | exact ((Below.refl _ _).drew.alloc (by simp) _) | exact ((Below.refl _ _).drew.alloc (by simp) _).drew | exact ((Below.refl _ _).alloc (Nat.le_refl _) _).drew.drew) P6.out O6.out U6.out)
               revert Q
               unfold cells
               generalize w6.heap.size = nb
               generalize w6.alloc _ = w7
               intro Q)
            go_wp2_with fail
            go_meet
            exact ⟨_, _, _, _, _, rfl, rfl, Q⟩
        case rest =>
          obtain ⟨nb, v', A', c', L', rfl, rfl, Q⟩ := hcut
          have hlz' : L'.list.length ≤ 256 := Q.out.pair.st.led.row.1
          have n0 := Q.out.nb.cell 0
          have n1 := Q.out.nb.cell 1
          have n2 := Q.out.nb.cell 2
          have n3 := Q.out.nb.cell 3
          have n4 := Q.out.nb.cell 4
          have o0 := Q.out.box.cell 0
          have o1 := Q.out.box.cell 1
          have o2 := Q.out.box.cell 2
          have o3 := Q.out.box.cell 3
          have o4 := Q.out.box.cell 4
          have of := Q.out.box.frozen
          simp [cells] at n0 n1 n2 n3 n4 o0 o1 o2 o3 o4
          have N := Lib.hid (Q.out.next hR.out.hh hR.out.ne)
          go_upto_region 11 with fail
          revert N
          generalize hw8 : ((((wc.setCell ⟨h, 0, Option.none⟩ (.bool L'.opn)).setCell ⟨h, 1, Option.none⟩ (.int .i64 L'.cwnd)).setCell ⟨h, 2, Option.none⟩ (.int .i64 L'.thresh)).setCell ⟨h, 3, Option.none⟩ (.slice A' L'.list.length c')).setCell ⟨h, 4, Option.none⟩ (.bool L'.spilt) = w8
          intro N
          clear hw8 n0 n1 n2 n3 n4 o0 o1 o2 o3 o4 of Q
          have HN := N.out
          have e0 : ∀ d os, (Go.Sort.grow (redrawn w8 d) os).cell? ⟨h, 0, Option.none⟩ = some (.bool L'.opn) := fun d os => (HN.st.box.regrown d os).cell 0
          have e3 : ∀ d os, (Go.Sort.grow (redrawn w8 d) os).cell? ⟨h, 3, Option.none⟩ = some (.slice A' L'.list.length c') := fun d os => (HN.st.box.regrown d os).cell 3
          have e4 : ∀ d os, (Go.Sort.grow (redrawn w8 d) os).cell? ⟨h, 4, Option.none⟩ = some (.bool L'.spilt) := fun d os => (HN.st.box.regrown d os).cell 4
          have f0 : ∀ d os, (Go.Sort.grow (redrawn w8 d) os).cell? ⟨bx, 0, Option.none⟩ = some (.bool L.opn) := fun d os => (HN.was.regrown d os).cell 0
          have f3 : ∀ d os, (Go.Sort.grow (redrawn w8 d) os).cell? ⟨bx, 3, Option.none⟩ = some (.slice A L.list.length c) := fun d os => (HN.was.regrown d os).cell 3
          have L33 := Lib.hid (fun d os => regrown_same (open_calls g v' L' (Go.Sort.grow (redrawn w8 d) os) (HN.st.pair.st.led.below (below_regrown w8 d os))))
          have L30 := Lib.hid (fun d os => regrown_same (pending_calls g v' L' (Go.Sort.grow (redrawn w8 d) os) (HN.st.pair.st.led.below (below_regrown w8 d os))))
          have L34 := Lib.hid (fun d os => regrown_same (spilt_calls g v' L' (Go.Sort.grow (redrawn w8 d) os) (HN.st.pair.st.led.below (below_regrown w8 d os))))
          have M33 := Lib.hid (fun d os => regrown_same (open_calls g2 v2 L (Go.Sort.grow (redrawn w8 d) os) (HN.led.below (below_regrown w8 d os))))
          have M30 := Lib.hid (fun d os => regrown_same (pending_calls g2 v2 L (Go.Sort.grow (redrawn w8 d) os) (HN.led.below (below_regrown w8 d os))))
          clear HN
          refine wp_region_quiet_below (by kernel_rfl) (by kernel_rfl) ?_
          repeat (go_big_quiet_step (first | with_reducible exact L33.out _ _ | with_reducible exact L30.out _ _ | with_reducible exact L34.out _ _ | with_reducible exact M33.out _ _ | with_reducible exact M30.out _ _))
          refine wpQuiet_nil ?_
          rintro _ ⟨⟨nq, osq⟩, rfl⟩
          have RN := Lib.hid (N.out.st.below (below_regrown w8 nq osq))
          generalize Go.Sort.grow (redrawn w8 nq) osq = w9 at *
          go_wp2
          go_roundw
          case rel => exact ⟨k + 1, v', A', c', L', by omega, by omega, by go_num, RN⟩
          case measure => simp [intOf]; omega
    · have hsp : ¬ k < nx ∨ (k < nx ∧ ¬ k < 600) := by omega
      clear hlt
      have hds : (decide (k < nx) = false) ∨ (decide (k < nx) = true ∧ decide ((k : Int) < 600) = false) := by
        rcases hsp with h1 | ⟨h1, h2⟩
        · exact .inl (decide_eq_false (by omega))
        · exact .inr ⟨decide_eq_true (by omega), decide_eq_false (by omega)⟩
      clear hsp hk hk2 hn
      rcases hds with d1 | ⟨d1, d2⟩
      all_goals
        go_wp2_with fail
        refine (known_calls wr).mono ?_
        rintro e w9 ⟨rfl, b9⟩
        have B9 := Lib.hid (below_then hR.out.pair.st.bel hR.out.pair.st.bel.size b9)
        clear b9
        go_wp2
        go_ret
        exact ⟨rfl, B9.out⟩
end Go.Proofs.Ytaokiocpfpdmkaa.Led
