/- Chapter 21 (buffer): whatever is written, read and freed (law 12). -/
import Derived.Test.YtaokiocpfpdmkaaBufDoes2
set_option linter.unusedSimpArgs false
set_option linter.unusedVariables false
attribute [local go_sem ↓] Go.wp_at_zero Go.wp_at_succ
namespace Go.Proofs.Ytaokiocpfpdmkaa.Buff
open Go.BigFrame Go.RowKit Go.OpenShut Go.Proofs.Ytaokiocpfpdmkaa.Aid Go.Proofs.Ytaokiocpfpdmkaa.Spans
open Led (Kept kept_refl kept_set kept_drewN kept_drew kept_below below_kept)
structure BOp where
  k : Int
  D : Option Addr
  d : Nat
  p : List Int
  t : Int
  s : Span
instance : Inhabited BOp := ⟨⟨0, Option.none, 0, [], 0, ⟨0, 0⟩⟩⟩
def encOp (x : BOp) : List Value := [.int .u8 x.k, .slice x.D x.p.length x.d, .int .i64 x.t, .int .i64 x.s.lo, .int .i64 x.s.hi]
structure WfOp (w : World) (x : BOp) : Prop where
  k0 : 0 ≤ x.k
  k1 : x.k ≤ 255
  cap : x.p.length ≤ x.d
  nil : x.D = Option.none → x.d = 0
  reps : Reps w x.D 1 encB x.p
theorem bufok_new {w : World} {g rb : Nat} {una : Int} {n : Nat} (h : IsBuf w g rb ⟨una, una, List.replicate n 0, n⟩) : BufOk w g rb una n [] := ⟨_, h, holds_new una n⟩
theorem docok_nil (w : World) (Z : Nat → Prop) : DocOk w Z [] Option.none 0 := ⟨Nat.le_refl _, fun _ => rfl, fun i x hx => by simp at hx, fun h => absurd rfl h⟩
theorem kept_at {w w' : World} {g rb : Nat} {b : Buf} (hk : Kept w w' g (slc rb b)) (p : Addr) (h1 : p.block < w.heap.size) (h2 : p.block ≠ g) (h3 : p.block ≠ rb) : w'.cell? p = w.cell? p := by
  unfold World.cell?
  have := hk.block p.block h1 h2 (fun e => h3 ((show rb = p.block by simpa [slc, Value.ownBlock] using e).symm))
  rw [this]
/-- Below block number N nothing has turned, and the buffer's own blocks are the call's. -/
structure PSt (w wr : World) (g rb h : Nat) (una : Int) (most : Nat) (B : List Int) (A : Option Addr) (c : Nat) : Prop where
  box : Blk wr h 81 #[.int .i64 una, .int .i64 most, .slice A B.length c]
  buf : BufOk wr g rb una most B
  doc : DocOk wr (fun x => (x = g ∨ x = rb) ∨ x = h) B A c
  bel : Below w.heap.size w wr
/-- Behind an operation: what it told lies in a box of its own, bx. -/
structure QSt (w w5 : World) (g rb h bx : Nat) (ua : Int) (most : Nat) (B : List Int) (A : Option Addr) (c : Nat) (old : Array Value) (ob : Array Value) : Prop where
  nb : Blk w5 bx 81 #[.int .i64 ua, .int .i64 most, .slice A B.length c]
  hb : Blk w5 h 81 old
  op : Blk w5 w.heap.size 79 ob
  buf : BufOk w5 g rb ua most B
  doc : DocOk w5 (fun x => (x = g ∨ x = rb) ∨ x = h) B A c
  bel : Below w.heap.size w w5
theorem kept_blk {w w' : World} {g rb : Nat} {b : Buf} {x : Nat} {t : TypeId} {cs : Array Value} (h : Blk w x t cs) (hk : Kept w w' g (slc rb b)) (h2 : x ≠ g) (h3 : x ≠ rb) : Blk w' x t cs :=
  (hk.block x h.lt h2 (fun e => h3 ((show rb = x by simpa [slc, Value.ownBlock] using e).symm))).trans h
theorem docok_weak {w : World} {Z Y : Nat → Prop} {B : List Int} {A : Option Addr} {c : Nat} (h : DocOk w (fun x => Z x ∨ Y x) B A c) : DocOk w Z B A c := ⟨h.cap, h.nil, h.reps, fun h1 a ha hz => h.far h1 a ha (.inl hz)⟩
theorem docok_up {w w' : World} {Z : Nat → Prop} {B : List Int} {A : Option Addr} {c : Nat} (h : DocOk w Z B A c) (hb : Below w.heap.size w w') : DocOk w' (fun x => Z x ∨ (x = w.heap.size ∧ w.heap.size < w'.heap.size)) B A c :=
  ⟨h.cap, h.nil, h.reps.below hb, fun h1 a ha hz => hz.elim (h.far h1 a ha) (fun e => by
    obtain ⟨y, hy⟩ : ∃ y, B[0]? = some y := ⟨_, List.getElem?_eq_getElem (List.length_pos_iff.2 h1)⟩
    obtain ⟨ad, e1, hl, _⟩ := h.reps 0 y hy
    obtain rfl : a = ad := by rw [ha] at e1; simpa using e1
    omega)⟩
theorem qst_new {w wr Wc w4 : World} {g rb h : Nat} {ua ua' : Int} {most : Nat} {B B' : List Int} {A A' : Option Addr} {c c' : Nat} {ob : Array Value} {bb : Buf} (hP : PSt w wr g rb h ua most B A c ∧ Blk wr w.heap.size 79 ob)
    (hB2 : g ≠ h ∧ rb ≠ h ∧ w.heap.size < h) (gB : w.heap.size + 1 ≤ g) (rB : w.heap.size + 1 ≤ rb) (hk : Kept Wc w4 g (slc rb bb)) (hb : Below wr.heap.size wr Wc) (hd : DocOk w4 (fun x => ((x = g ∨ x = rb) ∨ x = h) ∨ (x = wr.heap.size ∧ wr.heap.size < Wc.heap.size)) B' A' c') (hB : BufOk w4 g rb ua' most B') :
    QSt w (w4.alloc (.cells #[.int .i64 ua', .int .i64 most, .slice A' B'.length c'] 81)) g rb h w4.heap.size ua' most B' A' c' #[.int .i64 ua, .int .i64 most, .slice A B.length c] ob :=
  ⟨Blk.new w4 81 _, (kept_blk (hP.1.box.below hb hP.1.box.lt) hk (fun e => hB2.1 e.symm) (fun e => hB2.2.1 e.symm)).alloc _, (kept_blk (hP.2.below hb hP.2.lt) hk (by omega) (by omega)).alloc _,
    hB.below ((Below.refl _ w4).alloc (Nat.le_refl _) _), (docok_weak hd).below ((Below.refl _ w4).alloc (Nat.le_refl _) _),
    (kept_own (below_then hP.1.bel hP.1.bel.size hb) hk (Nat.le_trans hP.1.bel.size hb.size) (by omega) (by omega)).alloc (Nat.le_trans (Nat.le_trans hP.1.bel.size hb.size) hk.size) _⟩
theorem qst_set {w wr Wc w4 : World} {g rb h : Nat} {ua ua' : Int} {most : Nat} {B B' : List Int} {A A' : Option Addr} {c c' : Nat} {ob : Array Value} {bb : Buf} (hP : PSt w wr g rb h ua most B A c ∧ Blk wr w.heap.size 79 ob)
    (hB2 : g ≠ h ∧ rb ≠ h ∧ w.heap.size < h) (gB : w.heap.size + 1 ≤ g) (rB : w.heap.size + 1 ≤ rb) (hk : Kept Wc w4 g (slc rb bb)) (hb : Below wr.heap.size wr Wc) (hn : Blk Wc wr.heap.size 81 #[.int .i64 0, .int .i64 0, .slice Option.none 0 0]) (hd : DocOk w4 (fun x => ((x = g ∨ x = rb) ∨ x = h) ∨ (x = wr.heap.size ∧ wr.heap.size < Wc.heap.size)) B' A' c') (hB : BufOk w4 g rb ua' most B') :
    QSt w (((w4.setCell ⟨wr.heap.size, 0, Option.none⟩ (.int .i64 ua')).setCell ⟨wr.heap.size, 1, Option.none⟩ (.int .i64 most)).setCell ⟨wr.heap.size, 2, Option.none⟩ (.slice A' B'.length c')) g rb h wr.heap.size ua' most B' A' c' #[.int .i64 ua, .int .i64 most, .slice A B.length c] ob := by
  have e1 := hP.1.box.lt
  have e2 := hP.2.lt
  have e3 := hP.1.buf.lt
  have e4 := hP.1.bel.size
  have dn : DocOk w4 (fun y => ((y = g ∨ y = rb) ∨ y = h) ∨ y = wr.heap.size) B' A' c' := ⟨hd.cap, hd.nil, hd.reps, fun h1 a ha hz => hd.far h1 a ha (hz.imp id fun e => ⟨e, hn.lt⟩)⟩
  have nb := kept_blk hn hk (by omega) (by omega)
  refine ⟨(((nb.set_ 0 _).set_ 1 _).set_ 2 _).eq (by simp), ?_, ?_, ?_, ?_, ?_⟩
  · exact (((kept_blk (hP.1.box.below hb hP.1.box.lt) hk (fun e => hB2.1 e.symm) (fun e => hB2.2.1 e.symm)).far (by simp only; omega) _).far (by simp only; omega) _).far (by simp only; omega) _
  · exact (((kept_blk (hP.2.below hb hP.2.lt) hk (by omega) (by omega)).far (by simp only; omega) _).far (by simp only; omega) _).far (by simp only; omega) _
  · exact bufok_set (bufok_set (bufok_set hB _ _ (by omega) (by omega)) _ _ (by omega) (by omega)) _ _ (by omega) (by omega)
  · exact (docok_set (docok_set (docok_set dn _ _) _ _) _ _).less
  · exact (((kept_own (below_then hP.1.bel hP.1.bel.size hb) hk (Nat.le_trans hP.1.bel.size hb.size) (by omega) (by omega)).setCell (by simp only; omega) _).setCell (by simp only; omega) _).setCell (by simp only; omega) _
theorem QSt.next {w w5 : World} {g rb h bx : Nat} {ua : Int} {most : Nat} {B : List Int} {A : Option Addr} {c : Nat} {u0 u1 u2 : Value} {ob : Array Value} (hQ : QSt w w5 g rb h bx ua most B A c #[u0, u1, u2] ob) (hB2 : g ≠ h ∧ rb ≠ h ∧ w.heap.size < h) :
    PSt w (((w5.setCell ⟨h, 0, Option.none⟩ (.int .i64 ua)).setCell ⟨h, 1, Option.none⟩ (.int .i64 most)).setCell ⟨h, 2, Option.none⟩ (.slice A B.length c)) g rb h ua most B A c ∧ Blk (((w5.setCell ⟨h, 0, Option.none⟩ (.int .i64 ua)).setCell ⟨h, 1, Option.none⟩ (.int .i64 most)).setCell ⟨h, 2, Option.none⟩ (.slice A B.length c)) w.heap.size 79 ob :=
  ⟨⟨(((hQ.hb.set_ 0 _).set_ 1 _).set_ 2 _).eq (by simp), bufok_set (bufok_set (bufok_set hQ.buf _ _ hB2.1 hB2.2.1) _ _ hB2.1 hB2.2.1) _ _ hB2.1 hB2.2.1, docok_set (docok_set (docok_set hQ.doc _ _) _ _) _ _,
    ((hQ.bel.setCell (by simp only; omega) _).setCell (by simp only; omega) _).setCell (by simp only; omega) _⟩,
   ((hQ.op.far (by simp only; omega) _).far (by simp only; omega) _).far (by simp only; omega) _⟩
theorem PSt.below {w wr w' : World} {g rb h : Nat} {ua : Int} {most : Nat} {B : List Int} {A : Option Addr} {c : Nat} (hP : PSt w wr g rb h ua most B A c) (hb : Below wr.heap.size wr w') : PSt w w' g rb h ua most B A c :=
  ⟨hP.box.below hb hP.box.lt, hP.buf.below hb, hP.doc.below hb, below_then hP.bel hP.bel.size hb⟩
theorem BufOk.far {w w' : World} {g rb g2 rb2 : Nat} {una : Int} {most : Nat} {B : List Int} {b2 : Buf} (h : BufOk w g rb una most B) (hk : Kept w w' g2 (slc rb2 b2)) (h1 : g ≠ g2) (h2 : g ≠ rb2) (h3 : rb ≠ g2) (h4 : rb ≠ rb2) : BufOk w' g rb una most B := by
  obtain ⟨b, hb, hh⟩ := h
  refine ⟨b, ⟨kept_blk hb.box hk h1 h2, hb.ring.same (fun k e => ?_), hb.ne, hb.ok⟩, hh⟩
  have e2 : rb = k := by simpa [slc, Value.ownBlock] using e
  subst e2
  exact hk.block rb hb.rlt h3 (fun e => h4 ((show rb2 = rb by simpa [slc, Value.ownBlock] using e).symm))
theorem docok_news {w w' : World} {Z : Nat → Prop} {B : List Int} {A : Option Addr} {c : Nat} (h : DocOk w Z B A c) (hb : Below w.heap.size w w') : DocOk w' (fun x => Z x ∨ (w.heap.size ≤ x ∧ x < w'.heap.size)) B A c :=
  ⟨h.cap, h.nil, h.reps.below hb, fun h1 a ha hz => hz.elim (h.far h1 a ha) (fun e => by
    obtain ⟨y, hy⟩ : ∃ y, B[0]? = some y := ⟨_, List.getElem?_eq_getElem (List.length_pos_iff.2 h1)⟩
    obtain ⟨ad, e1, hl, _⟩ := h.reps 0 y hy
    obtain rfl : a = ad := by rw [ha] at e1; simpa using e1
    omega)⟩
/-- Behind the last operation, done with a clone. -/
structure FSt (w w9 : World) (g rb h g2 rb2 : Nat) (ua : Int) (most : Nat) (B : List Int) (A : Option Addr) (c : Nat) (ua2 : Int) (B2 : List Int) (A2 : Option Addr) : Prop where
  box : Blk w9 h 81 #[.int .i64 ua, .int .i64 most, .slice A B.length c]
  buf : BufOk w9 g rb ua most B
  reps : Reps w9 A 1 encB B
  buf2 : BufOk w9 g2 rb2 ua2 most B2
  reps2 : Reps w9 A2 1 encB B2
  bel : Below w.heap.size w w9
theorem FSt.below {w w9 w' : World} {g rb h g2 rb2 : Nat} {ua : Int} {most : Nat} {B : List Int} {A : Option Addr} {c : Nat} {ua2 : Int} {B2 : List Int} {A2 : Option Addr} (hf : FSt w w9 g rb h g2 rb2 ua most B A c ua2 B2 A2) (hb : Below w9.heap.size w9 w') : FSt w w' g rb h g2 rb2 ua most B A c ua2 B2 A2 :=
  ⟨hf.box.below hb hf.box.lt, hf.buf.below hb, hf.reps.below hb, hf.buf2.below hb, hf.reps2.below hb, below_then hf.bel hf.bel.size hb⟩
theorem fst_does {w wr w8 w9 : World} {g rb h g2 rb2 : Nat} {ua : Int} {most : Nat} {B : List Int} {A : Option Addr} {c : Nat} {ua2 : Int} {B2 : List Int} {A2 : Option Addr} {c2 : Nat} {b : Buf} (hP : PSt w wr g rb h ua most B A c) (hb : Below wr.heap.size wr w8) (hg2 : wr.heap.size ≤ g2) (hr2 : wr.heap.size ≤ rb2) (hg3 : g2 < w8.heap.size) (hr3 : rb2 < w8.heap.size)
    (hd : DocOk w9 (fun x => ((x = g ∨ x = rb) ∨ x = h) ∨ (wr.heap.size ≤ x ∧ x < w8.heap.size)) B2 A2 c2) (hB : BufOk w9 g2 rb2 ua2 most B2) (hk : Kept w8 w9 g2 (slc rb2 b)) : FSt w w9 g rb h g2 rb2 ua most B A c ua2 B2 A2 := by
  have e1 := hP.box.lt
  have e3 := hP.buf.lt
  have e4 := hP.bel.size
  have D := docok_news hP.doc hb
  exact ⟨kept_blk (hP.box.below hb e1) hk (by omega) (by omega), (hP.buf.below hb).far hk (by omega) (by omega) (by omega) (by omega), (D.kept hk (.inr ⟨hg2, hg3⟩) (.inr ⟨hr2, hr3⟩)).reps, hB, hd.reps,
    kept_own (below_then hP.bel hP.bel.size hb) hk (Nat.le_trans e4 hb.size) (by omega) (by omega)⟩
/-- The buffer is the document's. -/
theorem eq_ok (g rb : Nat) (una : Int) (most : Nat) (B : List Int) (A : Option Addr) (c : Nat) (w : World) (h : BufOk w g rb una most B) (hR : Reps w A 1 encB B) :
    Calls Try.prog 44 #[.pointer (some ⟨g, 0, Option.none⟩), .agg #[.int .i64 una, .int .i64 most, .slice A B.length c]] w (Gives w (.bool true)) := by
  obtain ⟨b, h1, h2⟩ := h
  exact equal_calls g rb b una most B A B.length c w h1 h2 rfl hR
set_option maxRecDepth 100000 in
set_option maxHeartbeats 8000000 in
theorem plays_err (una most : Int) (O : Option Addr) (n c : Nat) (x : BOp) (w : World) (he : una < 0 ∨ 4611686018427387904 < una ∨ most < 1 ∨ 65536 < most) :
    Calls Try.prog 12 #[.int .i64 una, .int .i64 most, .slice O n c, opVal x.k x.D x.p.length x.d x.t x.s] w (Gives w (.bool true)) := by
  obtain ⟨k, D, d, p, t, s⟩ := x
  have N := Lib.hid (fun w1 => new_err una most w1 he)
  have cases : una < 0 ∨ (¬ una < 0 ∧ 4611686018427387904 < una) ∨ (¬ una < 0 ∧ ¬ 4611686018427387904 < una ∧ most < 1) ∨ (¬ una < 0 ∧ ¬ 4611686018427387904 < una ∧ ¬ most < 1 ∧ 65536 < most) := by omega
  unfold opVal
  simp only
  generalize p.length = m
  clear he
  rcases cases with h1 | ⟨h1, h2⟩ | ⟨h1, h2, h3⟩ | ⟨h1, h2, h3, h4⟩
  all_goals
    go_enter Try.func12, Try.ntmps12
    go_wp2_with fail
    refine (known_calls _).mono ?_
    rintro e w1 ⟨rfl, b1⟩
    have B1 := Lib.hid (below1 b1)
    clear b1
    go_wp2_with fail
    refine (N.out w1).mono ?_
    rintro e w2 ⟨rfl, rfl⟩
    go_wp2_with fail
    refine (known_calls w1).mono ?_
    rintro e w3 ⟨rfl, b3⟩
    have B3 := Lib.hid (below_then B1.out B1.out.size b3)
    clear b3
    go_wp2
    go_ret
    exact ⟨rfl, B3.out⟩
set_option maxRecDepth 100000 in
set_option maxHeartbeats 8000000 in
theorem plays_walk (una : Int) (most : Nat) (O : Option Addr) (oc : Nat) (xs : List BOp) (x : BOp) (w : World) (u0 : 0 ≤ una) (u1 : una ≤ 4611686018427387904) (m0 : 1 ≤ most) (m1 : most ≤ 65536)
    (hx : WfOp w x) (hxs : ∀ y ∈ xs, WfOp w y) (hl : xs.length ≤ maxLen) (hR : Reps w O 5 encOp xs) :
    Calls Try.prog 12 #[.int .i64 una, .int .i64 most, .slice O xs.length oc, opVal x.k x.D x.p.length x.d x.t x.s] w (Gives w (.bool true)) := by
  have N := Lib.hid (fun w1 => new_calls una most w1 u0 u1 m0 m1)
  have HX := Lib.hid hx
  have HXS := Lib.hid hxs
  have HR := Lib.hid hR
  have u0' : ¬ una < 0 := by omega
  have u1' : ¬ 4611686018427387904 < una := by omega
  have m0' : ¬ (most : Int) < 1 := by omega
  have m1' : ¬ 65536 < (most : Int) := by omega
  obtain ⟨W, hW⟩ : ∃ W, W = w.alloc (.cells #[.int .u8 x.k, .slice x.D x.p.length x.d, .int .i64 x.t, .int .i64 x.s.lo, .int .i64 x.s.hi] 79) := ⟨_, rfl⟩
  have XB := Lib.hid (show Blk W w.heap.size 79 #[.int .u8 x.k, .slice x.D x.p.length x.d, .int .i64 x.t, .int .i64 x.s.lo, .int .i64 x.s.hi] by rw [hW]; exact Blk.new w _ _)
  have B0 := Lib.hid (show Below w.heap.size w W by rw [hW]; exact (Below.refl _ w).alloc (Nat.le_refl _) _)
  unfold maxLen at hl
  clear hx hxs hR
  unfold opVal
  go_enter Try.func12, Try.ntmps12
  go_wp2_with fail
  rw [← hW]
  clear hW
  refine (known_calls W).mono ?_
  rintro e w1 ⟨rfl, b1⟩
  have B1 := Lib.hid (below_then B0.out B0.out.size b1)
  have XB1 := Lib.hid (XB.out.below b1 XB.out.lt)
  clear b1 XB
  go_wp2_with fail
  refine (N.out w1).mono ?_
  rintro e w2 ⟨g, rb, rfl, h2, g2, r2, b2⟩
  have B2 := Lib.hid (below_then B1.out B1.out.size b2)
  have XB2 := Lib.hid (XB1.out.below b2 XB1.out.lt)
  have H2 := Lib.hid (bufok_new h2)
  have gB : w.heap.size + 1 ≤ g := by have := XB1.out.lt; omega
  have rB : w.heap.size + 1 ≤ rb := by have := XB1.out.lt; omega
  clear b2 XB1 h2 g2 r2 N
  go_wp2_with fail
  have hgl := H2.out.lt
  have P3 : PSt w (w2.alloc (.cells #[.int .i64 una, .int .i64 most, .slice Option.none 0 0] 81)) g rb w2.heap.size una most [] Option.none 0 :=
    ⟨Blk.new w2 81 _, H2.out.below ((Below.refl _ w2).alloc (Nat.le_refl _) _), docok_nil _ _, B2.out.alloc B2.out.size _⟩
  have X3 := XB2.out.alloc (.cells #[.int .i64 una, .int .i64 most, .slice Option.none 0 0] 81)
  generalize w2.alloc (.cells #[.int .i64 una, .int .i64 most, .slice Option.none 0 0] 81) = w3 at *
  have hB2 := B2.out.size
  have HB2 := Lib.hid (show g ≠ w2.heap.size ∧ rb ≠ w2.heap.size ∧ w.heap.size < w2.heap.size from ⟨by omega, by omega, XB2.out.lt⟩)
  have P3 := Lib.hid (And.intro P3 X3)
  obtain ⟨h, hh⟩ : ∃ h, w2.heap.size = h := ⟨_, rfl⟩
  rw [hh] at P3 HB2 ⊢
  clear hh H2 XB2 B2 hgl hB2 X3
  obtain ⟨nx, hnx⟩ : ∃ nx, xs.length = nx := ⟨_, rfl⟩
  have HNX := Lib.hid hnx
  rw [hnx] at hl ⊢
  clear hnx
  go_loopw [12] (fun i wr => ∃ (k : Nat) (ua : Int) (B : List Int) (A : Option Addr) (c : Nat), k ≤ nx ∧ k ≤ 100 ∧ i = .int .i64 k ∧ Hid (PSt w wr g rb h ua most B A c ∧ Blk wr w.heap.size 79 #[.int .u8 x.k, .slice x.D x.p.length x.d, .int .i64 x.t, .int .i64 x.s.lo, .int .i64 x.s.hi])) (fun i _ => nx - (intOf i).toNat)
  case atStart => exact ⟨0, una, [], Option.none, 0, by omega, by omega, rfl, P3⟩
  case round =>
    obtain ⟨k, ua, B, A, c, hk, hk2, rfl, hP⟩ := hrel
    by_cases hlt : k < nx ∧ k < 100
    · obtain ⟨hlt, hlt2⟩ := hlt
      have d1 : decide ((k : Int) < (nx : Int)) = true := decide_eq_true (by omega)
      have d2 : decide ((k : Int) < 100) = true := decide_eq_true (by omega)
      go_upto_region 12 with fail
      obtain ⟨y, hy⟩ : ∃ y, xs[k]? = some y := ⟨_, List.getElem?_eq_getElem (by rw [HNX.out]; exact hlt)⟩
      have hw := HXS.out y (List.mem_of_getElem? hy)
      have hbel := hP.out.1.bel
      obtain ⟨ad, rfl, had, hcell⟩ := HR.out k y hy
      have cc : ∀ (j : Nat) (v : Value), (encOp y)[j]? = some v → wr.cell? (ad.add (k * 5 + j)) = some v := fun j v hv => by
        obtain ⟨ad', e, _, hc⟩ := (HR.out.below hbel) k y hy
        cases e
        exact hc j v hv
      have c0 : wr.cell? (ad.add (k * 5)) = some (.int .u8 y.k) := cc 0 _ rfl
      have c1 : wr.cell? ⟨(ad.add (k * 5)).block, (ad.add (k * 5)).off + 1, Option.none⟩ = some (.slice y.D y.p.length y.d) := (add_next ad (k * 5) 1 (by omega)) ▸ cc 1 _ rfl
      have c2 : wr.cell? ⟨(ad.add (k * 5)).block, (ad.add (k * 5)).off + 2, Option.none⟩ = some (.int .i64 y.t) := (add_next ad (k * 5) 2 (by omega)) ▸ cc 2 _ rfl
      have c3 : wr.cell? ⟨(ad.add (k * 5)).block, (ad.add (k * 5)).off + 3, Option.none⟩ = some (.int .i64 y.s.lo) := (add_next ad (k * 5) 3 (by omega)) ▸ cc 3 _ rfl
      have c4 : wr.cell? ⟨(ad.add (k * 5)).block, (ad.add (k * 5)).off + 4, Option.none⟩ = some (.int .i64 y.s.hi) := (add_next ad (k * 5) 4 (by omega)) ▸ cc 4 _ rfl
      have x0 := hP.out.1.box.cell 0
      have x1 := hP.out.1.box.cell 1
      have x2 := hP.out.1.box.cell 2
      simp at x0 x1 x2
      have DC := Lib.hid (fun W (hb : Below wr.heap.size wr W) => does_calls (fun x => ((x = g ∨ x = rb) ∨ x = h) ∨ (x = wr.heap.size ∧ wr.heap.size < W.heap.size)) g rb ua most B y.p A y.D c y.d y.k y.t y.s W (hP.out.1.buf.below hb) (docok_up hP.out.1.doc hb) (fun x hx => by
        have h1 := hP.out.1.buf.lt
        have h2 := hP.out.1.box.lt
        have h3 := hb.size
        rcases hx with ((rfl | rfl) | rfl) | ⟨rfl, h4⟩ <;> omega) (.inl (.inl (.inl rfl))) (.inl (.inl (.inr rfl))) hw.nil hw.cap (hw.reps.below (hbel.trans (hb.mono hbel.size))) (fun hp0 a ha => by
          obtain ⟨z, hz⟩ : ∃ z, y.p[0]? = some z := ⟨_, List.getElem?_eq_getElem (List.length_pos_iff.2 hp0)⟩
          obtain ⟨ad2, e1, hl2, _⟩ := hw.reps 0 z hz
          obtain rfl : a = ad2 := by rw [ha] at e1; simpa using e1
          omega) hw.k0 hw.k1)
      unfold dval opVal at DC
      have q0 : (0 : Int) ≤ (k : Int) := by omega
      have q1 : (k : Int) < (nx : Int) := by omega
      have hbox := hP.out.1.box.lt
      have nh1 : h ≠ g := fun e => HB2.out.1 e.symm
      have nh2 : h ≠ rb := fun e => HB2.out.2.1 e.symm
      have hab : (ad.add (k * 5)).block = ad.block := by unfold Addr.add; split <;> rfl
      have AFT := Lib.hid (fun (W : World) (bb : Buf) (w4 : World) (hb : Below wr.heap.size wr W) (hk : Kept W w4 g (slc rb bb)) => show (w4.cell? ⟨h, 0, Option.none⟩ = some (.int .i64 ua) ∧ w4.cell? ⟨h, 1, Option.none⟩ = some (.int .i64 most) ∧ w4.cell? ⟨h, 2, Option.none⟩ = some (.slice A B.length c) ∧ w4.cell? (ad.add (k * 5)) = some (.int .u8 y.k) ∧ w4.cell? ⟨(ad.add (k * 5)).block, (ad.add (k * 5)).off + 1, Option.none⟩ = some (.slice y.D y.p.length y.d) ∧ w4.cell? ⟨(ad.add (k * 5)).block, (ad.add (k * 5)).off + 2, Option.none⟩ = some (.int .i64 y.t) ∧ w4.cell? ⟨(ad.add (k * 5)).block, (ad.add (k * 5)).off + 3, Option.none⟩ = some (.int .i64 y.s.lo) ∧ w4.cell? ⟨(ad.add (k * 5)).block, (ad.add (k * 5)).off + 4, Option.none⟩ = some (.int .i64 y.s.hi)) from by
        have hz := hb.size
        have hz2 := hbel.size
        refine ⟨?_, ?_, ?_, ?_, ?_, ?_, ?_, ?_⟩
        · exact (kept_at hk _ (by simp only; omega) nh1 nh2).trans ((hb.cell (p := ⟨h, 0, Option.none⟩) hbox).trans x0)
        · exact (kept_at hk _ (by simp only; omega) nh1 nh2).trans ((hb.cell (p := ⟨h, 1, Option.none⟩) hbox).trans x1)
        · exact (kept_at hk _ (by simp only; omega) nh1 nh2).trans ((hb.cell (p := ⟨h, 2, Option.none⟩) hbox).trans x2)
        · exact (kept_at hk _ (by rw [hab]; omega) (by rw [hab]; omega) (by rw [hab]; omega)).trans ((hb.cell (p := ad.add (k * 5)) (by rw [hab]; omega)).trans c0)
        · exact (kept_at hk _ (by simp only; omega) (by simp only; omega) (by simp only; omega)).trans ((hb.cell (p := ⟨(ad.add (k * 5)).block, (ad.add (k * 5)).off + 1, Option.none⟩) (by simp only; omega)).trans c1)
        · exact (kept_at hk _ (by simp only; omega) (by simp only; omega) (by simp only; omega)).trans ((hb.cell (p := ⟨(ad.add (k * 5)).block, (ad.add (k * 5)).off + 2, Option.none⟩) (by simp only; omega)).trans c2)
        · exact (kept_at hk _ (by simp only; omega) (by simp only; omega) (by simp only; omega)).trans ((hb.cell (p := ⟨(ad.add (k * 5)).block, (ad.add (k * 5)).off + 3, Option.none⟩) (by simp only; omega)).trans c3)
        · exact (kept_at hk _ (by simp only; omega) (by simp only; omega) (by simp only; omega)).trans ((hb.cell (p := ⟨(ad.add (k * 5)).block, (ad.add (k * 5)).off + 4, Option.none⟩) (by simp only; omega)).trans c4))
      have nw1 : wr.heap.size ≠ g := by have := hP.out.1.buf.lt; omega
      have nw2 : wr.heap.size ≠ rb := by have := hP.out.1.buf.lt; omega
      have nw3 : ¬ wr.heap.size = h := by omega
      have nw4 : ¬ h = wr.heap.size := by omega
      have nw5 : ¬ wr.heap.size = (ad.add (k * 5)).block := by rw [hab]; have := hbel.size; omega
      have nw6 : ¬ (ad.add (k * 5)).block = wr.heap.size := by rw [hab]; have := hbel.size; omega
      have BX := Lib.hid (Blk.new wr 81 #[.int .i64 0, .int .i64 0, .slice Option.none 0 0])
      clear hab
      have HCC := Lib.hid (And.intro cc (And.intro had hbel))
      clear cc had hbel hcell hy hw
      go_region_held3 (fun w' => w'.cell? ⟨h, 0, Option.none⟩ = some (.int .i64 ua) ∧ w'.cell? ⟨h, 1, Option.none⟩ = some (.int .i64 most) ∧ w'.cell? ⟨h, 2, Option.none⟩ = some (.slice A B.length c) ∧ w'.cell? (ad.add (k * 5)) = some (.int .u8 y.k) ∧ w'.cell? ⟨(ad.add (k * 5)).block, (ad.add (k * 5)).off + 1, Option.none⟩ = some (.slice y.D y.p.length y.d) ∧ w'.cell? ⟨(ad.add (k * 5)).block, (ad.add (k * 5)).off + 2, Option.none⟩ = some (.int .i64 y.t) ∧ w'.cell? ⟨(ad.add (k * 5)).block, (ad.add (k * 5)).off + 3, Option.none⟩ = some (.int .i64 y.s.lo) ∧ w'.cell? ⟨(ad.add (k * 5)).block, (ad.add (k * 5)).off + 4, Option.none⟩ = some (.int .i64 y.s.hi)) (go_keep) ((go_at_call 43; refine (DC.out _ (by first | exact (Below.refl _ _).drew | exact (Below.refl _ _).drew.drew | exact ((Below.refl _ _).alloc (Nat.le_refl _) _).drew | exact ((Below.refl _ _).alloc (Nat.le_refl _) _) | exact ((Below.refl _ _).drew.alloc (by simp) _) | exact ((Below.refl _ _).drew.alloc (by simp) _).drew | exact ((Below.refl _ _).alloc (Nat.le_refl _) _).drew.drew)).mono ?_; rintro e w4 ⟨ua', B', A', c', rfl, d4, b4, bb, k4⟩; obtain ⟨v0, v1, v2, v3, v4, v5, v6, v7⟩ := AFT.out _ _ _ (by first | exact (Below.refl _ _).drew | exact (Below.refl _ _).drew.drew | exact ((Below.refl _ _).alloc (Nat.le_refl _) _).drew | exact ((Below.refl _ _).alloc (Nat.le_refl _) _) | exact ((Below.refl _ _).drew.alloc (by simp) _) | exact ((Below.refl _ _).drew.alloc (by simp) _).drew | exact ((Below.refl _ _).alloc (Nat.le_refl _) _).drew.drew) k4; have D4 := Lib.hid d4; have B4 := Lib.hid b4; have K4 := Lib.hid k4; (try (have t0 : w4.cell? ⟨wr.heap.size, 0, Option.none⟩ = some (.int .i64 0) := (kept_at k4 ⟨wr.heap.size, 0, Option.none⟩ (by simp) nw1 nw2).trans (BX.out.cell 0); have t1 : w4.cell? ⟨wr.heap.size, 1, Option.none⟩ = some (.int .i64 0) := (kept_at k4 ⟨wr.heap.size, 1, Option.none⟩ (by simp) nw1 nw2).trans (BX.out.cell 1); have t2 : w4.cell? ⟨wr.heap.size, 2, Option.none⟩ = some (.slice Option.none 0 0) := (kept_at k4 ⟨wr.heap.size, 2, Option.none⟩ (by simp) nw1 nw2).trans (BX.out.cell 2); have tf : ∀ i, w4.frozen? ⟨wr.heap.size, i, Option.none⟩ = false := fun i => (kept_frozen k4 i (by simp) nw1 nw2).trans (BX.out.frozen i))); clear d4 b4; unfold dval))
      all_goals
        first
        | (have tt := t0
           clear tt
           have Q := Lib.hid (qst_set hP.out HB2.out gB rB K4.out (by first | exact (Below.refl _ _).drew | exact (Below.refl _ _).drew.drew | exact ((Below.refl _ _).alloc (Nat.le_refl _) _).drew | exact ((Below.refl _ _).alloc (Nat.le_refl _) _) | exact ((Below.refl _ _).drew.alloc (by simp) _) | exact ((Below.refl _ _).drew.alloc (by simp) _).drew | exact ((Below.refl _ _).alloc (Nat.le_refl _) _).drew.drew) BX.out D4.out B4.out)
           revert Q
           generalize hw5 : ((w4.setCell ⟨wr.heap.size, 0, Option.none⟩ (.int .i64 ua')).setCell ⟨wr.heap.size, 1, Option.none⟩ (.int .i64 most)).setCell ⟨wr.heap.size, 2, Option.none⟩ (.slice A' B'.length c') = w5
           clear hw5
           generalize wr.heap.size = bx
           intro Q)
        | (have Q := Lib.hid (qst_new hP.out HB2.out gB rB K4.out (by first | exact (Below.refl _ _).drew | exact (Below.refl _ _).drew.drew | exact ((Below.refl _ _).alloc (Nat.le_refl _) _).drew | exact ((Below.refl _ _).alloc (Nat.le_refl _) _) | exact ((Below.refl _ _).drew.alloc (by simp) _) | exact ((Below.refl _ _).drew.alloc (by simp) _).drew | exact ((Below.refl _ _).alloc (Nat.le_refl _) _).drew.drew) D4.out B4.out)
           revert Q
           generalize w4.heap.size = bx
           generalize w4.alloc _ = w5
           intro Q)
        clear v0 v1 v2 v3 v4 v5 v6 v7 D4 B4 K4 c0 c1 c2 c3 c4 x0 x1 x2 DC AFT nw1 nw2 nw3 nw4 nw5 nw6 BX HCC hbox
        try clear t0 t1 t2 tf
        have n0 := Q.out.nb.cell 0
        have n1 := Q.out.nb.cell 1
        have n2 := Q.out.nb.cell 2
        have o0 := Q.out.hb.cell 0
        have o1 := Q.out.hb.cell 1
        have o2 := Q.out.hb.cell 2
        have of := Q.out.hb.frozen
        simp at n0 n1 n2 o0 o1 o2
        have QS := Lib.hid (Q.out.next HB2.out)
        have EQ := Lib.hid (eq_ok g rb ua' most B' A' c' _ QS.out.1.buf QS.out.1.doc.reps)
        go_wp2_with (go_at_call 44; refine EQ.out.mono ?_; rintro e w6 ⟨rfl, b6⟩; have P6 := Lib.hid (And.intro (QS.out.1.below b6) (QS.out.2.below b6 QS.out.2.lt)); clear b6)
        go_roundw
        case rel => exact ⟨k + 1, ua', B', A', c', by omega, by omega, by go_num, P6⟩
        case measure => simp [intOf]; omega
    · have hsp : ¬ k < nx ∨ (k < nx ∧ ¬ k < 100) := by omega
      clear hlt
      have CL := Lib.hid (fun b (h1 : IsBuf wr g rb b) => clone_calls g rb b wr h1)
      obtain ⟨b, hb1, hb2⟩ := hP.out.1.buf
      have HB := Lib.hid (And.intro hb1 hb2)
      have KC := Lib.hid (clone_calls g rb b wr hb1)
      clear hb1 hb2 CL
      have hds : (decide (k < nx) = false) ∨ (decide (k < nx) = true ∧ decide ((k : Int) < 100) = false) := by
        rcases hsp with h1 | ⟨h1, h2⟩
        · exact .inl (decide_eq_false (by omega))
        · exact .inr ⟨decide_eq_true (by omega), decide_eq_false (by omega)⟩
      clear hsp hk hk2 hl
      rcases hds with d1 | ⟨d1, d2⟩
      all_goals
        go_wp2_with fail
        refine KC.out.mono ?_
        rintro e w8 ⟨g2, rb2, cc, rfl, h8, b8, hg2, hr2⟩
        have P8 := Lib.hid (And.intro (hP.out.1.below b8) (hP.out.2.below b8 hP.out.2.lt))
        have G8 := Lib.hid (show g2 < w8.heap.size ∧ rb2 < w8.heap.size from ⟨h8.box.lt, h8.rlt⟩)
        have D8 := Lib.hid (does_calls (fun x => ((x = g ∨ x = rb) ∨ x = h) ∨ (wr.heap.size ≤ x ∧ x < w8.heap.size)) g2 rb2 ua most B x.p A x.D c x.d x.k x.t x.s w8 ⟨_, h8, ⟨HB.out.2.hu, HB.out.2.hf, HB.out.2.hm, HB.out.2.ha⟩⟩ (docok_news hP.out.1.doc b8) (fun x hx => by
          have h1 := hP.out.1.buf.lt
          have h2 := hP.out.1.box.lt
          have h3 := b8.size
          rcases hx with ((rfl | rfl) | rfl) | ⟨_, h4⟩ <;> omega) (.inr ⟨hg2, G8.out.1⟩) (.inr ⟨hr2, G8.out.2⟩) HX.out.nil HX.out.cap (HX.out.reps.below P8.out.1.bel) (fun hp0 a ha => by
            obtain ⟨z, hz⟩ : ∃ z, x.p[0]? = some z := ⟨_, List.getElem?_eq_getElem (List.length_pos_iff.2 hp0)⟩
            obtain ⟨ad2, e1, hl2, _⟩ := HX.out.reps 0 z hz
            obtain rfl : a = ad2 := by rw [ha] at e1; simpa using e1
            have := hP.out.1.bel.size
            omega) HX.out.k0 HX.out.k1)
        have B8 := Lib.hid b8
        have HG := Lib.hid (And.intro hg2 hr2)
        have x0 := P8.out.1.box.cell 0
        have x1 := P8.out.1.box.cell 1
        have x2 := P8.out.1.box.cell 2
        have y0 := P8.out.2.cell 0
        have y1 := P8.out.2.cell 1
        have y2 := P8.out.2.cell 2
        have y3 := P8.out.2.cell 3
        have y4 := P8.out.2.cell 4
        simp at x0 x1 x2 y0 y1 y2 y3 y4
        clear h8 b8 hg2 hr2 KC
        unfold dval opVal at D8
        go_wp2_with fail
        refine D8.out.mono ?_
        rintro e w9 ⟨ua2, B2, A2, c2, rfl, d9, b9, bb, k9⟩
        have F9 := Lib.hid (fst_does hP.out.1 B8.out HG.out.1 HG.out.2 G8.out.1 G8.out.2 d9 b9 k9)
        clear d9 b9 k9 x0 x1 x2 y0 y1 y2 y3 y4 D8
        unfold dval
        go_wp2_with fail
        have N10 := Blk.new w9 81 #[.int .i64 ua2, .int .i64 most, .slice A2 B2.length c2]
        have F10 := F9.out.below ((Below.refl _ w9).alloc (Nat.le_refl _) (.cells #[.int .i64 ua2, .int .i64 most, .slice A2 B2.length c2] 81))
        revert N10 F10
        generalize w9.alloc (.cells #[.int .i64 ua2, .int .i64 most, .slice A2 B2.length c2] 81) = w10
        intro N10 F10
        refine (eq_ok g2 rb2 ua2 most B2 A2 c2 w10 F10.buf2 F10.reps2).mono ?_
        rintro e w11 ⟨rfl, b11⟩
        have F11 := Lib.hid (F10.below b11)
        have x0 := F11.out.box.cell 0
        have x1 := F11.out.box.cell 1
        have x2 := F11.out.box.cell 2
        simp at x0 x1 x2
        clear N10 F10 b11 F9
        go_wp2_with fail
        refine (eq_ok g rb ua most B A c w11 F11.out.buf F11.out.reps).mono ?_
        rintro e w12 ⟨rfl, b12⟩
        have B12 := Lib.hid (F11.out.below b12).bel
        clear b12 F11 x0 x1 x2
        go_wp2_with fail
        refine (known_calls w12).mono ?_
        rintro e w13 ⟨rfl, b13⟩
        have B13 := Lib.hid (below_then B12.out B12.out.size b13)
        clear b13
        go_wp2
        go_ret
        exact ⟨rfl, B13.out⟩
end Go.Proofs.Ytaokiocpfpdmkaa.Buff
