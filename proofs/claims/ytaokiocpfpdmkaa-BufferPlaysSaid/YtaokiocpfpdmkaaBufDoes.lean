/- Chapter 21 (buffer): an operation with both (does). (UNDER WAY.) -/
import Derived.Test.YtaokiocpfpdmkaaBufStep
import Derived.Deep.RegionHeld3
import Derived.Deep.DrawnRows
import Derived.BigRegion
set_option linter.unusedSimpArgs false
set_option linter.unusedVariables false
attribute [local go_sem ↓] Go.wp_at_zero Go.wp_at_succ
namespace Go.Proofs.Ytaokiocpfpdmkaa.Buff
open Go.BigFrame Go.RowKit Go.OpenShut Go.Proofs.Ytaokiocpfpdmkaa.Aid Go.Proofs.Ytaokiocpfpdmkaa.Spans
open Led (Kept kept_refl kept_set kept_drewN kept_drew kept_below below_kept)
def opVal (k : Int) (D : Option Addr) (m d : Nat) (t : Int) (s : Span) : Value := .agg #[.int .u8 k, .slice D m d, .int .i64 t, .int .i64 s.lo, .int .i64 s.hi]
/-- What comes of an operation: both tell the same. -/
def Both (w : World) (Z : Nat → Prop) (g rb : Nat) (most : Nat) (una : Int) (B : List Int) (e : Ending) (w' : World) : Prop :=
  ∃ A c, e = .returned (.tuple #[dval una most (.slice A B.length c), .bool true]) ∧ DocOk w' Z B A c ∧ BufOk w' g rb una most B ∧ ∃ b, Kept w w' g (slc rb b)
/-- The boxes of an operation. -/
structure DBox (W0 W : World) (una : Int) (most : Nat) (u : Value) (k : Int) (D : Option Addr) (m d : Nat) (t : Int) (s : Span) : Prop where
  b0 : Blk W W0.heap.size 81 #[.int .i64 una, .int .i64 most, u]
  b1 : Blk W (W0.heap.size + 1) 79 #[.int .u8 k, .slice D m d, .int .i64 t, .int .i64 s.lo, .int .i64 s.hi]
  b2 : Blk W (W0.heap.size + 1 + 1) 81 #[.int .i64 0, .int .i64 0, .slice Option.none 0 0]
  bel : Below W0.heap.size W0 W
theorem dbox_new (W : World) (una : Int) (most : Nat) (u : Value) (k : Int) (D : Option Addr) (m d : Nat) (t : Int) (s : Span) : DBox W (((W.alloc (.cells #[.int .i64 una, .int .i64 most, u] 81)).alloc (.cells #[.int .u8 k, .slice D m d, .int .i64 t, .int .i64 s.lo, .int .i64 s.hi] 79)).alloc (.cells #[.int .i64 0, .int .i64 0, .slice Option.none 0 0] 81)) una most u k D m d t s := by
  have h1 := Blk.new (W.alloc (.cells #[.int .i64 una, .int .i64 most, u] 81)) 79 #[.int .u8 k, .slice D m d, .int .i64 t, .int .i64 s.lo, .int .i64 s.hi]
  have h2 := Blk.new ((W.alloc (.cells #[.int .i64 una, .int .i64 most, u] 81)).alloc (.cells #[.int .u8 k, .slice D m d, .int .i64 t, .int .i64 s.lo, .int .i64 s.hi] 79)) 81 #[.int .i64 0, .int .i64 0, .slice Option.none 0 0]
  refine ⟨((Blk.new W 81 _).alloc _).alloc _, ?_, ?_, below_3 W _ _ _⟩
  · have := h1.alloc (.cells #[.int .i64 0, .int .i64 0, .slice Option.none 0 0] 81)
    simpa using this
  · simpa using h2
theorem DBox.below {W0 W W' : World} {una : Int} {most : Nat} {u : Value} {k : Int} {D : Option Addr} {m d : Nat} {t : Int} {s : Span} (h : DBox W0 W una most u k D m d t s) (hb : Below W.heap.size W W') : DBox W0 W' una most u k D m d t s :=
  ⟨h.b0.below hb h.b0.lt, h.b1.below hb h.b1.lt, h.b2.below hb h.b2.lt, below_then h.bel h.bel.size hb⟩
theorem docok_more {w w' : World} {Z : Nat → Prop} {B : List Int} {A : Option Addr} {c x : Nat} (h : DocOk w Z B A c) (hb : Below w.heap.size w w') (hx : w.heap.size ≤ x := by omega) : DocOk w' (fun y => Z y ∨ y = x) B A c :=
  ⟨h.cap, h.nil, h.reps.below hb, fun hB a ha hz => hz.elim (h.far hB a ha) (fun e => by
    obtain ⟨y, hy⟩ : ∃ y, B[0]? = some y := ⟨_, List.getElem?_eq_getElem (List.length_pos_iff.2 hB)⟩
    obtain ⟨ad, e1, hl, _⟩ := h.reps 0 y hy
    obtain rfl : a = ad := by rw [ha] at e1; simpa using e1
    omega)⟩
theorem docok_set {w : World} {Z : Nat → Prop} {B : List Int} {A : Option Addr} {c x : Nat} (h : DocOk w (fun y => Z y ∨ y = x) B A c) (i : Nat) (u : Value) : DocOk (w.setCell ⟨x, i, Option.none⟩ u) (fun y => Z y ∨ y = x) B A c := by
  refine ⟨h.cap, h.nil, fun j y hy => ?_, h.far⟩
  obtain ⟨ad, rfl, hl, hc⟩ := h.reps j y hy
  refine ⟨ad, rfl, by simpa [World.setCell] using hl, fun l v hv => ?_⟩
  rw [← hc l v hv]
  unfold World.cell?
  have e : (ad.add (j * 1 + l)).block = ad.block := by unfold Addr.add; split <;> rfl
  have := Below.heap_setCell w ⟨x, i, Option.none⟩ u (ad.add (j * 1 + l)).block (by rw [e]; intro e2; exact h.far (fun h => by rw [h] at hy; simp at hy) ad rfl (.inr e2))
  rw [this]
theorem bufok_set {w : World} {g rb : Nat} {una : Int} {most : Nat} {B : List Int} {x : Nat} (h : BufOk w g rb una most B) (i : Nat) (u : Value) (h1 : g ≠ x) (h2 : rb ≠ x) : BufOk (w.setCell ⟨x, i, Option.none⟩ u) g rb una most B := by
  obtain ⟨b, hb, hh⟩ := h
  exact ⟨b, ⟨hb.box.far (p := ⟨x, i, Option.none⟩) h1 u, hb.ring.same (fun k e => Below.heap_setCell _ _ _ k (fun e2 => h2 ((show rb = k by simpa [slc, Value.ownBlock] using e).trans e2))), hb.ne, hb.ok⟩, hh⟩
theorem kept_new {w w' : World} {g x : Nat} {v : Value} (h : Kept w w' g v) (hx : w.heap.size ≤ x) (i : Nat) (u : Value) : Kept w (w'.setCell ⟨x, i, Option.none⟩ u) g v :=
  ⟨h.os, h.tape, h.output, by simpa [World.setCell] using h.size, fun k hk h1 h2 => (Below.heap_setCell w' ⟨x, i, Option.none⟩ u k (by simp only; omega)).trans (h.block k hk h1 h2)⟩
theorem DocOk.less {w : World} {Z : Nat → Prop} {B : List Int} {A : Option Addr} {c x : Nat} (h : DocOk w (fun y => Z y ∨ y = x) B A c) : DocOk w Z B A c := ⟨h.cap, h.nil, h.reps, fun hB a ha hz => h.far hB a ha (.inl hz)⟩
theorem BufOk.lt {w : World} {g rb : Nat} {una : Int} {most : Nat} {B : List Int} (h : BufOk w g rb una most B) : g < w.heap.size ∧ rb < w.heap.size := by
  obtain ⟨b, hb, _⟩ := h
  exact ⟨hb.box.lt, hb.rlt⟩
theorem kept_cell {w w' : World} {g rb : Nat} {b : Buf} (hk : Kept w w' g (slc rb b)) {x : Nat} (o : Nat) (h1 : x < w.heap.size) (h2 : x ≠ g) (h3 : x ≠ rb) : w'.cell? ⟨x, o, Option.none⟩ = w.cell? ⟨x, o, Option.none⟩ := by
  unfold World.cell?
  have := hk.block x h1 h2 (fun e => h3 (by have : rb = x := by simpa [slc, Value.ownBlock] using e
                                            exact this.symm))
  simp only [this]
theorem kept_frozen {w w' : World} {g rb : Nat} {b : Buf} (hk : Kept w w' g (slc rb b)) {x : Nat} (o : Nat) (h1 : x < w.heap.size) (h2 : x ≠ g) (h3 : x ≠ rb) : w'.frozen? ⟨x, o, Option.none⟩ = w.frozen? ⟨x, o, Option.none⟩ := by
  unfold World.frozen?
  have := hk.block x h1 h2 (fun e => h3 (by have : rb = x := by simpa [slc, Value.ownBlock] using e
                                            exact this.symm))
  simp only [this]
set_option maxRecDepth 100000 in
set_option maxHeartbeats 8000000 in
theorem does_write (Z : Nat → Prop) (g rb : Nat) (una : Int) (most : Nat) (B p : List Int) (A D : Option Addr) (c d : Nat) (k t : Int) (s : Span) (w : World) (hb : BufOk w g rb una most B) (hd : DocOk w Z B A c) (hZ : ∀ x, Z x → x < w.heap.size) (hZg : Z g) (hZr : Z rb) (hD : D = Option.none → d = 0) (hpd : p.length ≤ d) (hR : Reps w D 1 encB p) (hne : p ≠ [] → ∀ a, D = some a → a.block ≠ rb)
    (k0 : 0 ≤ k) (k1 : k ≤ 255) (hk : k % 3 = 0) (hgl : g < w.heap.size) (hrl : rb < w.heap.size) :
    Calls Try.prog 43 #[.pointer (some ⟨g, 0, Option.none⟩), dval una most (.slice A B.length c), opVal k D p.length d t s] w (Both w Z g rb most una (wres una most B p).2) := by
  have ht : k.tmod 3 = k % 3 := Int.tmod_eq_emod_of_nonneg k0
  have W1 := Lib.hid (fun w1 (h : Below w.heap.size w w1) (hs : w.heap.size + 1 + 1 < w1.heap.size) => wd_calls (fun x => Z x ∨ x = w.heap.size + 1 + 1) g rb una most B p A D c d w1 (hb.below h) (docok_more hd h) (fun x hx => hx.elim (fun hx => Nat.lt_of_lt_of_le (hZ x hx) h.size) (fun hx => by rw [hx]; exact hs)) hD (hR.below h))
  have W2 := Lib.hid (fun w1 (h : Below w.heap.size w w1) => wb_calls g rb una most B p D d w1 (hb.below h) hpd (hR.below h) hne)
  have HB := Lib.hid hb
  generalize hr : wres una most B p = res at *
  obtain ⟨r, B'⟩ := res
  simp only at W1 W2 ⊢
  generalize hn : B.length = n at *
  generalize hm : p.length = m at *
  clear hr hn hm hb hd hR hne hpd hD
  unfold dval opVal
  unfold dval at W1
  go_enter Try.func43, Try.ntmps43
  go_wp2_with fail
  refine (W1.out _ (below_3 w _ _ _) (by simp)).mono ?_
  rintro e w1 ⟨A', c', rfl, hd1, b1⟩
  have D1 := Lib.hid ((dbox_new w una most (.slice A n c) k D m d t s).below b1)
  have HD1 := Lib.hid hd1
  have y1 := D1.out.b1.cell 1
  simp at y1
  clear hd1 b1
  unfold dval
  go_upto_region 4 with fail
  obtain ⟨w2, hw2⟩ : ∃ w2, w2 = w1.alloc (.cells #[.int .i64 una, .int .i64 most, .slice A' B'.length c'] 81) := ⟨_, rfl⟩
  have b12 : Below w1.heap.size w1 w2 := by rw [hw2]; exact (Below.refl _ w1).alloc (Nat.le_refl _) _
  have X8 : Blk w2 w1.heap.size 81 #[.int .i64 una, .int .i64 most, .slice A' B'.length c'] := by rw [hw2]; exact Blk.new w1 81 _
  have D2 := Lib.hid (D1.out.below b12)
  have HD2 := Lib.hid (HD1.out.below b12)
  have HX := Lib.hid X8
  have q0 := X8.cell 0
  have q1 := X8.cell 1
  have q2 := X8.cell 2
  have z0 := D2.out.b2.cell 0
  have z1 := D2.out.b2.cell 1
  have z2 := D2.out.b2.cell 2
  have o1 := D2.out.b1.cell 1
  simp at q0 q1 q2 z0 z1 z2 o1
  rw [← hw2]
  clear hw2 b12 X8 y1
  generalize hg8 : w1.heap.size = g8 at *
  have hg9 : w.heap.size ≤ g8 := by rw [← hg8]; exact D1.out.bel.size
  have hg10 : g8 < w2.heap.size := HX.out.lt
  have hr2 : w.heap.size + 1 + 1 < w2.heap.size := D2.out.b2.lt
  have fr0 := D2.out.b2.frozen
  have AFT := Lib.hid (fun (w' : World) (b4 : Buf) (w3 : World) (hh : w'.heap = w2.heap) (hk : Kept w' w3 g (slc rb b4)) => show (w3.cell? ⟨g8, 0, Option.none⟩ = some (.int .i64 una) ∧ w3.cell? ⟨g8, 1, Option.none⟩ = some (.int .i64 most) ∧ w3.cell? ⟨g8, 2, Option.none⟩ = some (.slice A' B'.length c') ∧ w3.cell? ⟨w.heap.size + 1, 1, Option.none⟩ = some (.slice D m d) ∧ w3.cell? ⟨w.heap.size + 1 + 1, 0, Option.none⟩ = some (.int .i64 0) ∧ w3.cell? ⟨w.heap.size + 1 + 1, 1, Option.none⟩ = some (.int .i64 0) ∧ w3.cell? ⟨w.heap.size + 1 + 1, 2, Option.none⟩ = some (.slice Option.none 0 0) ∧ (∀ i, w3.frozen? ⟨w.heap.size + 1 + 1, i, Option.none⟩ = false)) from by
    have cc : ∀ x o, w'.cell? ⟨x, o, Option.none⟩ = w2.cell? ⟨x, o, Option.none⟩ := fun x o => by unfold World.cell?; rw [hh]
    have ff : ∀ x o, w'.frozen? ⟨x, o, Option.none⟩ = w2.frozen? ⟨x, o, Option.none⟩ := fun x o => by unfold World.frozen?; rw [hh]
    have s1 : g8 < w'.heap.size := by rw [hh]; exact hg10
    have s2 : w.heap.size + 1 < w'.heap.size := by rw [hh]; omega
    have s3 : w.heap.size + 1 + 1 < w'.heap.size := by rw [hh]; exact hr2
    refine ⟨?_, ?_, ?_, ?_, ?_, ?_, ?_, fun i => ?_⟩
    · exact (kept_cell hk 0 s1 (by omega) (by omega)).trans ((cc _ _).trans q0)
    · exact (kept_cell hk 1 s1 (by omega) (by omega)).trans ((cc _ _).trans q1)
    · exact (kept_cell hk 2 s1 (by omega) (by omega)).trans ((cc _ _).trans q2)
    · exact (kept_cell hk 1 s2 (by omega) (by omega)).trans ((cc _ _).trans o1)
    · exact (kept_cell hk 0 s3 (by omega) (by omega)).trans ((cc _ _).trans z0)
    · exact (kept_cell hk 1 s3 (by omega) (by omega)).trans ((cc _ _).trans z1)
    · exact (kept_cell hk 2 s3 (by omega) (by omega)).trans ((cc _ _).trans z2)
    · exact (kept_frozen hk i s3 (by omega) (by omega)).trans ((ff _ _).trans (fr0 i)))
  have ne1 : ¬ g8 = w.heap.size + 1 + 1 := by rw [← hg8]; have := D1.out.b2.lt; omega
  have ne2 : ¬ w.heap.size + 1 = w.heap.size + 1 + 1 := by omega
  have ne3 : ¬ w.heap.size + 1 + 1 = g8 := fun e => ne1 e.symm
  have ne4 : ¬ w.heap.size + 1 + 1 = w.heap.size + 1 := by omega
  have HNE := Lib.hid (And.intro hg9 (And.intro hg10 hr2))
  clear hg8 hg9 hg10 hr2 hgl hrl
  go_region_held3 (fun w' => w'.cell? ⟨g8, 0, Option.none⟩ = some (.int .i64 una) ∧ w'.cell? ⟨g8, 1, Option.none⟩ = some (.int .i64 most) ∧ w'.cell? ⟨g8, 2, Option.none⟩ = some (.slice A' B'.length c') ∧ w'.cell? ⟨w.heap.size + 1, 1, Option.none⟩ = some (.slice D m d)) (go_keep) ((go_at_call 38; refine (W2.out _ (by first | exact D2.out.bel.drew | exact D2.out.bel.drew.drew)).mono ?_; rintro e w3 ⟨rfl, hb3, b4, hk3⟩; obtain ⟨u0, u1, u2, u3, u4, u5, u6, fr3⟩ := AFT.out _ _ _ (by rfl) hk3; have HB3 := Lib.hid hb3; have HK3 := Lib.hid (show Kept w2 w3 g (slc rb b4) from ⟨hk3.os, hk3.tape, hk3.output, hk3.size, hk3.block⟩); clear hb3 hk3))
  all_goals
    go_wp2
    refine bodyPost_ret (v := .tuple #[dval una most (.slice A' B'.length c'), .bool true]) (by simp [results, Try.results43, go_sem, dval, u4, u5, u6]; done) rfl ⟨A', c', rfl, ?_, ?_, ?_⟩
    · exact (docok_set (docok_set (docok_set (HD2.out.kept HK3.out (.inl hZg) (.inl hZr)) _ _) _ _) _ _).less
    · exact bufok_set (bufok_set (bufok_set HB3.out _ _ (by have := HB.out.lt; omega) (by have := HB.out.lt; omega)) _ _ (by have := HB.out.lt; omega) (by have := HB.out.lt; omega)) _ _ (by have := HB.out.lt; omega) (by have := HB.out.lt; omega)
    · exact ⟨b4, kept_new (kept_new (kept_new (below_kept D2.out.bel HK3.out) (by omega) _ _) (by omega) _ _) (by omega) _ _⟩
set_option maxRecDepth 100000 in
set_option maxHeartbeats 8000000 in
theorem does_free (Z : Nat → Prop) (g rb : Nat) (una : Int) (most : Nat) (B : List Int) (A D : Option Addr) (c d m : Nat) (k t : Int) (s : Span) (w : World) (hb : BufOk w g rb una most B) (hd : DocOk w Z B A c) (hZg : Z g) (hZr : Z rb)
    (k0 : 0 ≤ k) (k1 : k ≤ 255) (hk : k % 3 = 1) (hgl : g < w.heap.size) (hrl : rb < w.heap.size) :
    Calls Try.prog 43 #[.pointer (some ⟨g, 0, Option.none⟩), dval una most (.slice A B.length c), opVal k D m d t s] w (Both w Z g rb most (fres una B t).2.1 (fres una B t).2.2) := by
  have ht : k.tmod 3 = k % 3 := Int.tmod_eq_emod_of_nonneg k0
  have W1 := Lib.hid (fun w1 (h : Below w.heap.size w w1) => fd_calls (fun x => Z x ∨ x = w.heap.size + 1 + 1) g rb una most B t A c w1 (hb.below h) (docok_more hd h))
  have W2 := Lib.hid (fun w1 (h : Below w.heap.size w w1) => fb_calls g rb una most B t w1 (hb.below h))
  have HB := Lib.hid hb
  generalize hr : fres una B t = res at *
  obtain ⟨r, una', B'⟩ := res
  simp only at W1 W2 ⊢
  generalize hn : B.length = n at *
  clear hr hn hb hd
  unfold dval opVal
  unfold dval at W1
  go_enter Try.func43, Try.ntmps43
  go_wp2_with fail
  refine (W1.out _ (below_3 w _ _ _)).mono ?_
  rintro e w1 ⟨A', c', rfl, hd1, b1⟩
  have D1 := Lib.hid ((dbox_new w una most (.slice A n c) k D m d t s).below b1)
  have HD1 := Lib.hid hd1
  have y1 := D1.out.b1.cell 2
  simp at y1
  clear hd1 b1
  unfold dval
  go_upto_region 7 with fail
  obtain ⟨w2, hw2⟩ : ∃ w2, w2 = w1.alloc (.cells #[.int .i64 una', .int .i64 most, .slice A' B'.length c'] 81) := ⟨_, rfl⟩
  have b12 : Below w1.heap.size w1 w2 := by rw [hw2]; exact (Below.refl _ w1).alloc (Nat.le_refl _) _
  have X8 : Blk w2 w1.heap.size 81 #[.int .i64 una', .int .i64 most, .slice A' B'.length c'] := by rw [hw2]; exact Blk.new w1 81 _
  have D2 := Lib.hid (D1.out.below b12)
  have HD2 := Lib.hid (HD1.out.below b12)
  have HX := Lib.hid X8
  have q0 := X8.cell 0
  have q1 := X8.cell 1
  have q2 := X8.cell 2
  have z0 := D2.out.b2.cell 0
  have z1 := D2.out.b2.cell 1
  have z2 := D2.out.b2.cell 2
  have o1 := D2.out.b1.cell 2
  simp at q0 q1 q2 z0 z1 z2 o1
  rw [← hw2]
  clear hw2 b12 X8 y1
  generalize hg8 : w1.heap.size = g8 at *
  have hg9 : w.heap.size ≤ g8 := by rw [← hg8]; exact D1.out.bel.size
  have hg10 : g8 < w2.heap.size := HX.out.lt
  have hr2 : w.heap.size + 1 + 1 < w2.heap.size := D2.out.b2.lt
  have fr0 := D2.out.b2.frozen
  have AFT := Lib.hid (fun (w' : World) (b4 : Buf) (w3 : World) (hh : w'.heap = w2.heap) (hk : Kept w' w3 g (slc rb b4)) => show (w3.cell? ⟨g8, 0, Option.none⟩ = some (.int .i64 una') ∧ w3.cell? ⟨g8, 1, Option.none⟩ = some (.int .i64 most) ∧ w3.cell? ⟨g8, 2, Option.none⟩ = some (.slice A' B'.length c') ∧ w3.cell? ⟨w.heap.size + 1, 2, Option.none⟩ = some (.int .i64 t) ∧ w3.cell? ⟨w.heap.size + 1 + 1, 0, Option.none⟩ = some (.int .i64 0) ∧ w3.cell? ⟨w.heap.size + 1 + 1, 1, Option.none⟩ = some (.int .i64 0) ∧ w3.cell? ⟨w.heap.size + 1 + 1, 2, Option.none⟩ = some (.slice Option.none 0 0) ∧ (∀ i, w3.frozen? ⟨w.heap.size + 1 + 1, i, Option.none⟩ = false)) from by
    have cc : ∀ x o, w'.cell? ⟨x, o, Option.none⟩ = w2.cell? ⟨x, o, Option.none⟩ := fun x o => by unfold World.cell?; rw [hh]
    have ff : ∀ x o, w'.frozen? ⟨x, o, Option.none⟩ = w2.frozen? ⟨x, o, Option.none⟩ := fun x o => by unfold World.frozen?; rw [hh]
    have s1 : g8 < w'.heap.size := by rw [hh]; exact hg10
    have s2 : w.heap.size + 1 < w'.heap.size := by rw [hh]; omega
    have s3 : w.heap.size + 1 + 1 < w'.heap.size := by rw [hh]; exact hr2
    refine ⟨?_, ?_, ?_, ?_, ?_, ?_, ?_, fun i => ?_⟩
    · exact (kept_cell hk 0 s1 (by omega) (by omega)).trans ((cc _ _).trans q0)
    · exact (kept_cell hk 1 s1 (by omega) (by omega)).trans ((cc _ _).trans q1)
    · exact (kept_cell hk 2 s1 (by omega) (by omega)).trans ((cc _ _).trans q2)
    · exact (kept_cell hk 2 s2 (by omega) (by omega)).trans ((cc _ _).trans o1)
    · exact (kept_cell hk 0 s3 (by omega) (by omega)).trans ((cc _ _).trans z0)
    · exact (kept_cell hk 1 s3 (by omega) (by omega)).trans ((cc _ _).trans z1)
    · exact (kept_cell hk 2 s3 (by omega) (by omega)).trans ((cc _ _).trans z2)
    · exact (kept_frozen hk i s3 (by omega) (by omega)).trans ((ff _ _).trans (fr0 i)))
  have ne1 : ¬ g8 = w.heap.size + 1 + 1 := by rw [← hg8]; have := D1.out.b2.lt; omega
  have ne2 : ¬ w.heap.size + 1 = w.heap.size + 1 + 1 := by omega
  have ne3 : ¬ w.heap.size + 1 + 1 = g8 := fun e => ne1 e.symm
  have ne4 : ¬ w.heap.size + 1 + 1 = w.heap.size + 1 := by omega
  have HNE := Lib.hid (And.intro hg9 (And.intro hg10 hr2))
  clear hg8 hg9 hg10 hr2 hgl hrl
  go_region_held3 (fun w' => w'.cell? ⟨g8, 0, Option.none⟩ = some (.int .i64 una') ∧ w'.cell? ⟨g8, 1, Option.none⟩ = some (.int .i64 most) ∧ w'.cell? ⟨g8, 2, Option.none⟩ = some (.slice A' B'.length c') ∧ w'.cell? ⟨w.heap.size + 1, 2, Option.none⟩ = some (.int .i64 t)) (go_keep) ((go_at_call 39; refine (W2.out _ (by first | exact D2.out.bel.drew | exact D2.out.bel.drew.drew)).mono ?_; rintro e w3 ⟨rfl, hb3, b4, hk3⟩; obtain ⟨u0, u1, u2, u3, u4, u5, u6, fr3⟩ := AFT.out _ _ _ (by rfl) hk3; have HB3 := Lib.hid hb3; have HK3 := Lib.hid (show Kept w2 w3 g (slc rb b4) from ⟨hk3.os, hk3.tape, hk3.output, hk3.size, hk3.block⟩); clear hb3 hk3))
  all_goals
    go_wp2
    refine bodyPost_ret (v := .tuple #[dval una' most (.slice A' B'.length c'), .bool true]) (by simp [results, Try.results43, go_sem, dval, u4, u5, u6]; done) rfl ⟨A', c', rfl, ?_, ?_, ?_⟩
    · exact (docok_set (docok_set (docok_set (HD2.out.kept HK3.out (.inl hZg) (.inl hZr)) _ _) _ _) _ _).less
    · exact bufok_set (bufok_set (bufok_set HB3.out _ _ (by have := HB.out.lt; omega) (by have := HB.out.lt; omega)) _ _ (by have := HB.out.lt; omega) (by have := HB.out.lt; omega)) _ _ (by have := HB.out.lt; omega) (by have := HB.out.lt; omega)
    · exact ⟨b4, kept_new (kept_new (kept_new (below_kept D2.out.bel HK3.out) (by omega) _ _) (by omega) _ _) (by omega) _ _⟩
end Go.Proofs.Ytaokiocpfpdmkaa.Buff
