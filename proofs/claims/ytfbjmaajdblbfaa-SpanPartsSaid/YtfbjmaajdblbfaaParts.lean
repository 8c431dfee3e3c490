/- SpanParts: what is below an offset, and what is from it on, are the whole, and have nothing in common. -/
import Derived.Test.YtfbjmaajdblbfaaSpanC
import Derived.IntWalk
namespace Go.Proofs.Ytfbjmaajdblbfaa.Spans
open Go.RowKit Go.OpenShut Go.Proofs.Ytfbjmaajdblbfaa.Aid Go.BigFrame
attribute [local go_sem ↓] Go.wp_at_zero Go.wp_at_succ
attribute [local go_sem] max_2 min_2 max2_i min2_i
def Yes (w : World) (e : Ending) (w' : World) : Prop := e = .returned (.bool true) ∧ Below w.heap.size w w'
def At2 (W : World) (g : Nat) (s : Span) : Prop := W.cell? ⟨g, 0, Option.none⟩ = some (.int .i64 s.lo) ∧ W.cell? ⟨g, 1, Option.none⟩ = some (.int .i64 s.hi)
theorem bn_drew {w W : World} (h : Below w.heap.size w W) : Below w.heap.size w W.drew := below_drew h
theorem bn_alloc {w W : World} (h : Below w.heap.size w W) (o : Obj) : Below w.heap.size w (W.alloc o) := h.alloc h.size _
theorem bn_set {w W : World} (h : Below w.heap.size w W) {p : Addr} (hp : w.heap.size ≤ p.block) (v : Value) : Below w.heap.size w (W.setCell p v) := h.setCell hp v
theorem bn_then {w W W2 : World} (h : Below w.heap.size w W) (k : Below W.heap.size W W2) : Below w.heap.size w W2 := below_then h h.size k
theorem set_here {W : World} {p : Addr} {v x : Value} (h : W.cell? p = some x) : (W.setCell p v).cell? p = some v := by
  exact World.cell?_setCell_same _ _ _ h
theorem at2_call {W W2 : World} {g : Nat} {s : Span} (h : At2 W g s) (hb : Below W.heap.size W W2) : At2 W2 g s :=
  ⟨(hb.cell (World.block_lt_of_cell? W _ h.1)).trans h.1, (hb.cell (World.block_lt_of_cell? W _ h.2)).trans h.2⟩
theorem at2_drew {W : World} {g : Nat} {s : Span} (h : At2 W g s) : At2 W.drew g s := h
theorem at2_alloc {W : World} {g : Nat} {s : Span} (h : At2 W g s) (o : Obj) : At2 (W.alloc o) g s :=
  ⟨(World.cell?_alloc_lt W o _ (World.block_lt_of_cell? W _ h.1)).trans h.1, (World.cell?_alloc_lt W o _ (World.block_lt_of_cell? W _ h.2)).trans h.2⟩
theorem at2_new {W : World} {g : Nat} {s : Span} (hg : g = W.heap.size) : At2 (W.alloc (.cells #[.int .i64 s.lo, .int .i64 s.hi] 23)) g s := by
  subst hg
  exact ⟨(Blk.new W 23 _).cell 0, (Blk.new W 23 _).cell 1⟩
theorem at2_newz {W : World} {g : Nat} (hg : g = W.heap.size) : At2 (W.alloc (.cells #[.int .i64 0, .int .i64 0] 23)) g ⟨0, 0⟩ := by
  subst hg
  exact ⟨(Blk.new W 23 _).cell 0, (Blk.new W 23 _).cell 1⟩
theorem at2_far {W : World} {p : Addr} {v : Value} {g : Nat} {s : Span} (h : At2 W g s) (hp : g ≠ p.block) : At2 (W.setCell p v) g s := by
  refine ⟨(World.cell?_setCell_other _ _ _ _ ?_).trans h.1, (World.cell?_setCell_other _ _ _ _ ?_).trans h.2⟩ <;> · intro e; rw [e] at hp; exact hp rfl
theorem at2_stored {W : World} {g : Nat} {s z : Span} (h : At2 W g z) : At2 ((W.setCell ⟨g, 0, Option.none⟩ (.int .i64 s.lo)).setCell ⟨g, 1, Option.none⟩ (.int .i64 s.hi)) g s := by
  have h1 : (W.setCell ⟨g, 0, Option.none⟩ (.int .i64 s.lo)).cell? ⟨g, 1, Option.none⟩ = some (.int .i64 z.hi) := (World.cell?_setCell_other _ _ _ _ (by simp)).trans h.2
  exact ⟨(World.cell?_setCell_other _ _ _ _ (by simp)).trans (set_here h.1), set_here h1⟩
theorem reps_two {W : World} {H : Nat} {ty : TypeId} {a b : Span} (h : W.heap[H]? = some (.cells #[.int .i64 a.lo, .int .i64 a.hi, .int .i64 b.lo, .int .i64 b.hi] ty (0, 0))) : Go.Proofs.Ytfbjmaajdblbfaa.Aid.Reps W (some ⟨H, 0, Option.none⟩) 2 encS [a, b] := by
  have hb : Blk W H ty #[.int .i64 a.lo, .int .i64 a.hi, .int .i64 b.lo, .int .i64 b.hi] := h
  intro i x hx
  refine ⟨_, rfl, hb.lt, fun j v hv => ?_⟩
  match i, hx with
  | 0, hx =>
    obtain rfl : a = x := by simpa using hx
    match j, hv with
    | 0, hv => simp [encS] at hv; subst hv; exact hb.cell 0
    | 1, hv => simp [encS] at hv; subst hv; exact hb.cell 1
    | j + 2, hv => simp [encS] at hv
  | 1, hx =>
    obtain rfl : b = x := by simpa using hx
    match j, hv with
    | 0, hv => simp [encS] at hv; subst hv; exact hb.cell 2
    | 1, hv => simp [encS] at hv; subst hv; exact hb.cell 3
    | j + 2, hv => simp [encS] at hv
  | i + 2, hx => simp at hx
theorem hull2_c (a b : Span) (A : Option Addr) (c : Nat) (hc : 2 ≤ c) (w : World) (h : Go.Proofs.Ytfbjmaajdblbfaa.Aid.Reps w A 2 encS [a, b]) : Calls Try.prog 16 #[.slice A 2 c] w (Gives w (.agg #[.int .i64 (hull [a, b]).lo, .int .i64 (hull [a, b]).hi])) := hull_c [a, b] (by simp) A c hc w h
def Six (g g1 g2 : Nat) (s a b : Span) (W : World) : Prop := At2 W g s ∧ At2 W g1 a ∧ At2 W g2 b
theorem six_drew {W : World} {g g1 g2 : Nat} {s a b : Span} (h : Six g g1 g2 s a b W) : Six g g1 g2 s a b W.drew := h
theorem six_alloc {W : World} {g g1 g2 : Nat} {s a b : Span} {o : Obj} (h : Six g g1 g2 s a b W) : Six g g1 g2 s a b (W.alloc o) := ⟨at2_alloc h.1 o, at2_alloc h.2.1 o, at2_alloc h.2.2 o⟩
theorem six_below {W W2 : World} {g g1 g2 : Nat} {s a b : Span} (hb : Below W.heap.size W W2) (h : Six g g1 g2 s a b W) : Six g g1 g2 s a b W2 := ⟨at2_call h.1 hb, at2_call h.2.1 hb, at2_call h.2.2 hb⟩
/-- The span, and its two parts, in their boxes. -/
structure Boxes (w W : World) (g0 g1 g2 : Nat) (s a b : Span) : Prop where
  x0 : At2 W g0 s
  x1 : At2 W g1 a
  x2 : At2 W g2 b
  bel : Below w.heap.size w W
set_option linter.unusedSimpArgs false
theorem two_below {W w2 : World} {g : Nat} {x y : Value} (hb : Below W.heap.size W w2) (h : W.cell? ⟨g, 0, Option.none⟩ = some x ∧ W.cell? ⟨g, 1, Option.none⟩ = some y) : w2.cell? ⟨g, 0, Option.none⟩ = some x ∧ w2.cell? ⟨g, 1, Option.none⟩ = some y :=
  ⟨(hb.cell (World.block_lt_of_cell? W _ h.1)).trans h.1, (hb.cell (World.block_lt_of_cell? W _ h.2)).trans h.2⟩
set_option maxRecDepth 100000 in
set_option maxHeartbeats 4000000 in
theorem parts_walk (s : Span) (off : Int) (w : World) : Calls Try.prog 5 #[.agg #[.int .i64 s.lo, .int .i64 s.hi], .int .i64 off] w (Yes w) := by
  have KN := Lib.hid known_c
  have CA := Lib.hid (below_calls s off)
  have CB := Lib.hid (from__calls s off)
  obtain ⟨h1, h2, h3, h4, h5⟩ := parts s off
  have L1 := len_bd (below s off)
  have L2 := len_bd (from_ s off)
  have L3 := len_bd s
  generalize below s off = a at *
  generalize from_ s off = b at *
  have CLA := Lib.hid (len_calls a)
  have CLB := Lib.hid (len_calls b)
  have CLS := Lib.hid (len_calls s)
  have CM := Lib.hid (meet_c a b)
  have CLM := Lib.hid (len_calls (meet a b))
  have CH := Lib.hid (hull2_c a b)
  have CO := Lib.hid (of_ref s)
  have CHs := Lib.hid (has_calls a off)
  rw [← h1] at CLS L3
  rw [h2] at CLM
  rw [h3] at CH
  rw [h4] at CHs
  generalize meet a b = m at *
  generalize plain s = p at *
  generalize len a = x at *
  generalize len b = y at *
  obtain ⟨x0, -⟩ := L1
  obtain ⟨y0, -⟩ := L2
  obtain ⟨-, xy⟩ := L3
  have H5 := Lib.hid h5
  clear h1 h2 h3 h4 h5
  go_enter Try.func5, Try.ntmps5
  go_wp2_with fail
  refine (KN.out _).mono ?_
  rintro e w1 ⟨rfl, b1⟩
  have X0 := (Blk.new w 23 #[.int .i64 s.lo, .int .i64 s.hi]).below b1 (by simp)
  have HB := Lib.hid (below1 b1)
  obtain ⟨g, hg⟩ : ∃ g, g = w.heap.size := ⟨_, rfl⟩
  rw [← hg] at X0
  have HX := Lib.hid X0
  have hl := X0.lt
  rw [← hg]
  have HG := Lib.hid hg
  clear X0 b1 hg
  go_upto_region 3 with fail
  go_cut [5, 6] (fun sa sb wx => ∃ g1 g2 : Nat, sa = .pointer (some ⟨g1, 0, Option.none⟩) ∧ sb = .pointer (some ⟨g2, 0, Option.none⟩) ∧ Hid (Boxes w wx g g1 g2 s a b))
  case first =>
    have c0 : w1.cell? ⟨g, 0, Option.none⟩ = some (.int .i64 s.lo) := HX.out.cell 0
    have c1 : w1.cell? ⟨g, 1, Option.none⟩ = some (.int .i64 s.hi) := HX.out.cell 1
    have k1 := HB.out.size
    have ln := Nat.ne_of_lt hl
    have lm := Nat.ne_of_gt hl
    have lnb : g ≠ w1.heap.size + 1 := by omega
    have lmb := lnb.symm
    go_region_held3 (fun w' => w'.cell? ⟨g, 0, Option.none⟩ = some (.int .i64 s.lo) ∧ w'.cell? ⟨g, 1, Option.none⟩ = some (.int .i64 s.hi)) (go_keep) (first
      | (go_at_call 18
         refine (CA.out _).mono ?_
         rintro e w2 ⟨rfl, b2⟩
         have B2 : Below w.heap.size w w2 := bn_then (by repeat (first | exact HB.out | apply bn_drew | apply bn_alloc)) b2
         have k2 := B2.size
         have S2 := two_below (g := g) b2 (by assumption)
         have T2 : At2 w2 g s := S2
         have l2 : g < w2.heap.size := World.block_lt_of_cell? _ _ S2.1
         have ln2 := Nat.ne_of_lt l2
         have lm2 := Nat.ne_of_gt l2
         have ln2b : g ≠ w2.heap.size + 1 := by omega
         have lm2b := ln2b.symm
         obtain ⟨hc2, hf2⟩ := bcell b2
         have z2 := b2.size
         (try simp only [World.size_alloc, World.size_drew] at z2)
         (try have qw2_1 : w1.heap.size < w2.heap.size := by omega)
         (try have qw2_1n : w1.heap.size ≠ w2.heap.size := by omega)
         (try have qw2_1m : w2.heap.size ≠ w1.heap.size := by omega)
         (try have qw2_1o : w1.heap.size ≠ w2.heap.size + 1 := by omega)
         (try have qw2_1p : w2.heap.size + 1 ≠ w1.heap.size := by omega)
         (try have qw2_1r : w1.heap.size ≤ w2.heap.size := by omega)
         (try have qw2_2 : w1.heap.size + 1 < w2.heap.size := by omega)
         (try have qw2_2n : w1.heap.size + 1 ≠ w2.heap.size := by omega)
         (try have qw2_2m : w2.heap.size ≠ w1.heap.size + 1 := by omega)
         (try have qw2_2o : w1.heap.size + 1 ≠ w2.heap.size + 1 := by omega)
         (try have qw2_2p : w2.heap.size + 1 ≠ w1.heap.size + 1 := by omega)
         (try have qw2_2r : w1.heap.size + 1 ≤ w2.heap.size := by omega))
      | (go_at_call 20
         refine (CB.out _).mono ?_
         rintro e w3 ⟨rfl, b3⟩
         have B3 : Below w.heap.size w w3 := bn_then (by repeat (first | exact B2 | apply bn_drew | apply bn_alloc)) b3
         have k3 := B3.size
         have S3 := two_below (g := g) b3 (by assumption)
         have T3 : At2 w3 g s := S3
         have l3 : g < w3.heap.size := World.block_lt_of_cell? _ _ S3.1
         have ln3 := Nat.ne_of_lt l3
         have lm3 := Nat.ne_of_gt l3
         have ln3b : g ≠ w3.heap.size + 1 := by omega
         have lm3b := ln3b.symm
         obtain ⟨hc3, hf3⟩ := bcell b3
         have z3 := b3.size
         (try simp only [World.size_alloc, World.size_drew] at z3)
         (try have qw3_1 : w1.heap.size < w3.heap.size := by omega)
         (try have qw3_1n : w1.heap.size ≠ w3.heap.size := by omega)
         (try have qw3_1m : w3.heap.size ≠ w1.heap.size := by omega)
         (try have qw3_1o : w1.heap.size ≠ w3.heap.size + 1 := by omega)
         (try have qw3_1p : w3.heap.size + 1 ≠ w1.heap.size := by omega)
         (try have qw3_1r : w1.heap.size ≤ w3.heap.size := by omega)
         (try have qw3_2 : w1.heap.size + 1 < w3.heap.size := by omega)
         (try have qw3_2n : w1.heap.size + 1 ≠ w3.heap.size := by omega)
         (try have qw3_2m : w3.heap.size ≠ w1.heap.size + 1 := by omega)
         (try have qw3_2o : w1.heap.size + 1 ≠ w3.heap.size + 1 := by omega)
         (try have qw3_2p : w3.heap.size + 1 ≠ w1.heap.size + 1 := by omega)
         (try have qw3_2r : w1.heap.size + 1 ≤ w3.heap.size := by omega)
         (try have qw3_3 : w2.heap.size < w3.heap.size := by omega)
         (try have qw3_3n : w2.heap.size ≠ w3.heap.size := by omega)
         (try have qw3_3m : w3.heap.size ≠ w2.heap.size := by omega)
         (try have qw3_3o : w2.heap.size ≠ w3.heap.size + 1 := by omega)
         (try have qw3_3p : w3.heap.size + 1 ≠ w2.heap.size := by omega)
         (try have qw3_3r : w2.heap.size ≤ w3.heap.size := by omega)
         (try have qw3_4 : w2.heap.size + 1 < w3.heap.size := by omega)
         (try have qw3_4n : w2.heap.size + 1 ≠ w3.heap.size := by omega)
         (try have qw3_4m : w3.heap.size ≠ w2.heap.size + 1 := by omega)
         (try have qw3_4o : w2.heap.size + 1 ≠ w3.heap.size + 1 := by omega)
         (try have qw3_4p : w3.heap.size + 1 ≠ w2.heap.size + 1 := by omega)
         (try have qw3_4r : w2.heap.size + 1 ≤ w3.heap.size := by omega)))
    all_goals
      go_wp2_with fail
      go_meet
      refine ⟨_, _, rfl, rfl, Lib.hid ⟨?_, ?_, ?_, ?_⟩⟩
      · repeat (first | (with_reducible exact T2) | (with_reducible exact T3) | (with_reducible refine at2_new (s := _) ?_; simp; done) | (with_reducible refine at2_newz ?_; simp; done) | (with_reducible refine at2_alloc ?_ _) | (with_reducible refine at2_stored (z := ⟨0, 0⟩) ?_) | (with_reducible refine at2_far ?_ (by dsimp only; omega)) | (with_reducible refine at2_call ?_ b3) | (with_reducible refine at2_call ?_ b2) | (with_reducible refine at2_drew ?_))
      · repeat (first | (with_reducible exact T2) | (with_reducible exact T3) | (with_reducible refine at2_new (s := _) ?_; simp; done) | (with_reducible refine at2_newz ?_; simp; done) | (with_reducible refine at2_alloc ?_ _) | (with_reducible refine at2_stored (z := ⟨0, 0⟩) ?_) | (with_reducible refine at2_far ?_ (by dsimp only; omega)) | (with_reducible refine at2_call ?_ b3) | (with_reducible refine at2_call ?_ b2) | (with_reducible refine at2_drew ?_))
      · repeat (first | (with_reducible exact T2) | (with_reducible exact T3) | (with_reducible refine at2_new (s := _) ?_; simp; done) | (with_reducible refine at2_newz ?_; simp; done) | (with_reducible refine at2_alloc ?_ _) | (with_reducible refine at2_stored (z := ⟨0, 0⟩) ?_) | (with_reducible refine at2_far ?_ (by dsimp only; omega)) | (with_reducible refine at2_call ?_ b3) | (with_reducible refine at2_call ?_ b2) | (with_reducible refine at2_drew ?_))
      · repeat (first | exact B3 | apply bn_alloc | (refine bn_set ?_ (by simp; omega) _))
  case rest =>
    obtain ⟨g1, g2, rfl, rfl, F⟩ := hcut
    obtain ⟨⟨c0, c1⟩, ⟨c2, c3⟩, ⟨c4, c5⟩, B⟩ := F.out
    have S0 : Six g g1 g2 s a b wc := ⟨⟨c0, c1⟩, ⟨c2, c3⟩, ⟨c4, c5⟩⟩
    by_cases hy : y = 0
    · subst hy
      have CLS2 := Lib.hid CLS.out
      rw [Int.add_zero] at CLS2
      have ws : IntKind.i64.wrap x = x := IntWalk.i64_in _ (by omega)
      clear H5 CLS
      go_wp2
      refine wp_region_held_drew (S := (fun w' => w'.cell? ⟨g, 0, Option.none⟩ = some (.int .i64 s.lo) ∧ w'.cell? ⟨g, 1, Option.none⟩ = some (.int .i64 s.hi) ∧ w'.cell? ⟨g1, 0, Option.none⟩ = some (.int .i64 a.lo) ∧ w'.cell? ⟨g1, 1, Option.none⟩ = some (.int .i64 a.hi) ∧ w'.cell? ⟨g2, 0, Option.none⟩ = some (.int .i64 b.lo) ∧ w'.cell? ⟨g2, 1, Option.none⟩ = some (.int .i64 b.hi))) (by kernel_rfl) ?_ (fun hHeld => ?_)
      · ((try dsimp only); go_keep)
      refine wpAnyH_take (i := 0) (oi := _) (v := ?_) rfl (by kernel_rfl) (by kernel_rfl) (by kernel_rfl) (fun _ _ _ h => h) (Or.inl ⟨by rfl, ?_⟩) (by assumption) ?_
      rotate_left
      · intro w hSw
        go_simp
        try with_reducible rfl
      (try simp only [Act.put, List.setIfInBounds_toArray, List.set_cons_zero, List.set_cons_succ])
      refine wpAnyH_take (i := 2) (oi := _) (v := ?_) rfl (by kernel_rfl) (by kernel_rfl) (by kernel_rfl) (fun _ _ _ h => h) (Or.inl ⟨by rfl, ?_⟩) (by assumption) ?_
      rotate_left
      · intro w hSw
        go_simp
        try with_reducible rfl
      (try simp only [Act.put, List.setIfInBounds_toArray, List.set_cons_zero, List.set_cons_succ])
      refine wpAnyH_take (i := 5) (oi := _) (v := ?_) rfl (by kernel_rfl) (by kernel_rfl) (by kernel_rfl) (fun _ _ _ h => h) (Or.inl ⟨by rfl, ?_⟩) (by assumption) ?_
      rotate_left
      · intro w hSw
        go_simp
        try with_reducible rfl
      (try simp only [Act.put, List.setIfInBounds_toArray, List.set_cons_zero, List.set_cons_succ])
      refine wpAnyH_ready (rs := [1]) (by kernel_rfl) (by simp) ?_
      refine AllReadyH.cons (o := _) rfl (fun K hK => ?_) AllReadyH.nil
      go_simp
      refine (CLA.out _).mono ?_
      rintro e wn ⟨rfl, bn⟩
      have Bn : Below w.heap.size w wn := bn_then (by repeat (first | assumption | apply bn_drew | apply bn_alloc)) bn
      have Sn : Six g g1 g2 s a b wn := six_below bn (by repeat (first | assumption | apply six_drew | apply six_alloc))
      obtain ⟨⟨c0, c1⟩, ⟨c2, c3⟩, ⟨c4, c5⟩⟩ := Sn
      have Sn : Six g g1 g2 s a b wn := ⟨⟨c0, c1⟩, ⟨c2, c3⟩, ⟨c4, c5⟩⟩
      have e0 := Nat.ne_of_lt (World.block_lt_of_cell? wn _ c0)
      have e1 := Nat.ne_of_lt (World.block_lt_of_cell? wn _ c2)
      have e2 := Nat.ne_of_lt (World.block_lt_of_cell? wn _ c4)
      (try go_wp2_with fail)
      refine hK.out _ _ ?_ (fun hHeld => ?_)
      · ((try dsimp only); go_keep)
      clear hK K
      (try simp only [Act.put, List.setIfInBounds_toArray, List.set_cons_zero, List.set_cons_succ])
      refine wpAnyH_ready (rs := [3]) (by kernel_rfl) (by simp) ?_
      refine AllReadyH.cons (o := _) rfl (fun K hK => ?_) AllReadyH.nil
      go_simp
      refine (CLB.out _).mono ?_
      rintro e wn ⟨rfl, bn⟩
      have Bn : Below w.heap.size w wn := bn_then (by repeat (first | assumption | apply bn_drew | apply bn_alloc)) bn
      have Sn : Six g g1 g2 s a b wn := six_below bn (by repeat (first | assumption | apply six_drew | apply six_alloc))
      obtain ⟨⟨c0, c1⟩, ⟨c2, c3⟩, ⟨c4, c5⟩⟩ := Sn
      have Sn : Six g g1 g2 s a b wn := ⟨⟨c0, c1⟩, ⟨c2, c3⟩, ⟨c4, c5⟩⟩
      have e0 := Nat.ne_of_lt (World.block_lt_of_cell? wn _ c0)
      have e1 := Nat.ne_of_lt (World.block_lt_of_cell? wn _ c2)
      have e2 := Nat.ne_of_lt (World.block_lt_of_cell? wn _ c4)
      (try go_wp2_with fail)
      refine hK.out _ _ ?_ (fun hHeld => ?_)
      · ((try dsimp only); go_keep)
      clear hK K
      (try simp only [Act.put, List.setIfInBounds_toArray, List.set_cons_zero, List.set_cons_succ])
      refine wpAnyH_take (i := 4) (oi := _) (v := ?_) rfl (by kernel_rfl) (by kernel_rfl) (by kernel_rfl) (fun _ _ _ h => h) (Or.inl ⟨by rfl, ?_⟩) (by assumption) ?_
      rotate_left
      · intro w hSw
        go_simp
        try with_reducible rfl
      (try simp only [Act.put, List.setIfInBounds_toArray, List.set_cons_zero, List.set_cons_succ])
      refine wpAnyH_ready (rs := [6]) (by kernel_rfl) (by simp) ?_
      refine AllReadyH.cons (o := _) rfl (fun K hK => ?_) AllReadyH.nil
      go_simp
      refine (CLS2.out _).mono ?_
      rintro e wn ⟨rfl, bn⟩
      have Bn : Below w.heap.size w wn := bn_then (by repeat (first | assumption | apply bn_drew | apply bn_alloc)) bn
      have Sn : Six g g1 g2 s a b wn := six_below bn (by repeat (first | assumption | apply six_drew | apply six_alloc))
      obtain ⟨⟨c0, c1⟩, ⟨c2, c3⟩, ⟨c4, c5⟩⟩ := Sn
      have Sn : Six g g1 g2 s a b wn := ⟨⟨c0, c1⟩, ⟨c2, c3⟩, ⟨c4, c5⟩⟩
      have e0 := Nat.ne_of_lt (World.block_lt_of_cell? wn _ c0)
      have e1 := Nat.ne_of_lt (World.block_lt_of_cell? wn _ c2)
      have e2 := Nat.ne_of_lt (World.block_lt_of_cell? wn _ c4)
      (try go_wp2_with fail)
      refine hK.out _ _ ?_ (fun hHeld => ?_)
      · ((try dsimp only); go_keep)
      clear hK K
      (try simp only [Act.put, List.setIfInBounds_toArray, List.set_cons_zero, List.set_cons_succ])
      refine wpAnyH_take (i := 7) (oi := _) (v := ?_) rfl (by kernel_rfl) (by kernel_rfl) (by kernel_rfl) (fun _ _ _ h => h) (Or.inl ⟨by rfl, ?_⟩) (by assumption) ?_
      rotate_left
      · intro w hSw
        go_simp
        try with_reducible rfl
      (try simp only [Act.put, List.setIfInBounds_toArray, List.set_cons_zero, List.set_cons_succ])
      refine wpAnyH_take (i := 8) (oi := _) (v := ?_) rfl (by kernel_rfl) (by kernel_rfl) (by kernel_rfl) (fun _ _ _ h => h) (Or.inl ⟨by rfl, ?_⟩) (by assumption) ?_
      rotate_left
      · intro w hSw
        go_simp
        try with_reducible rfl
      (try simp only [Act.put, List.setIfInBounds_toArray, List.set_cons_zero, List.set_cons_succ])
      refine wpAnyH_take (i := 9) (oi := _) (v := ?_) rfl (by kernel_rfl) (by kernel_rfl) (by kernel_rfl) (fun _ _ _ h => h) (Or.inl ⟨by rfl, ?_⟩) (by assumption) ?_
      rotate_left
      · intro w hSw
        go_simp
        try with_reducible rfl
      (try simp only [Act.put, List.setIfInBounds_toArray, List.set_cons_zero, List.set_cons_succ])
      refine wpAnyH_take (i := 10) (oi := _) (v := ?_) rfl (by kernel_rfl) (by kernel_rfl) (by kernel_rfl) (fun _ _ _ h => h) (Or.inl ⟨by rfl, ?_⟩) (by assumption) ?_
      rotate_left
      · intro w hSw
        go_simp
        try with_reducible rfl
      (try simp only [Act.put, List.setIfInBounds_toArray, List.set_cons_zero, List.set_cons_succ])
      refine wpAnyH_ready (rs := [11]) (by kernel_rfl) (by simp) ?_
      refine AllReadyH.cons (o := _) rfl (fun K hK => ?_) AllReadyH.nil
      go_simp
      refine (CM.out _).mono ?_
      rintro e wn ⟨rfl, bn⟩
      have Bn : Below w.heap.size w wn := bn_then (by repeat (first | assumption | apply bn_drew | apply bn_alloc)) bn
      have Sn : Six g g1 g2 s a b wn := six_below bn (by repeat (first | assumption | apply six_drew | apply six_alloc))
      obtain ⟨⟨c0, c1⟩, ⟨c2, c3⟩, ⟨c4, c5⟩⟩ := Sn
      have Sn : Six g g1 g2 s a b wn := ⟨⟨c0, c1⟩, ⟨c2, c3⟩, ⟨c4, c5⟩⟩
      have e0 := Nat.ne_of_lt (World.block_lt_of_cell? wn _ c0)
      have e1 := Nat.ne_of_lt (World.block_lt_of_cell? wn _ c2)
      have e2 := Nat.ne_of_lt (World.block_lt_of_cell? wn _ c4)
      (try go_wp2_with fail)
      refine hK.out _ _ ?_ (fun hHeld => ?_)
      · ((try dsimp only); go_keep)
      clear hK K
      (try simp only [Act.put, List.setIfInBounds_toArray, List.set_cons_zero, List.set_cons_succ])
      refine wpAnyH_ready (rs := [12]) (by kernel_rfl) (by simp) ?_
      refine AllReadyH.cons (o := _) rfl (fun K hK => ?_) AllReadyH.nil
      go_simp
      refine (CLM.out _).mono ?_
      rintro e wn ⟨rfl, bn⟩
      have Bn : Below w.heap.size w wn := bn_then (by repeat (first | assumption | apply bn_drew | apply bn_alloc)) bn
      have Sn : Six g g1 g2 s a b wn := six_below bn (by repeat (first | assumption | apply six_drew | apply six_alloc))
      obtain ⟨⟨c0, c1⟩, ⟨c2, c3⟩, ⟨c4, c5⟩⟩ := Sn
      have Sn : Six g g1 g2 s a b wn := ⟨⟨c0, c1⟩, ⟨c2, c3⟩, ⟨c4, c5⟩⟩
      have e0 := Nat.ne_of_lt (World.block_lt_of_cell? wn _ c0)
      have e1 := Nat.ne_of_lt (World.block_lt_of_cell? wn _ c2)
      have e2 := Nat.ne_of_lt (World.block_lt_of_cell? wn _ c4)
      (try go_wp2_with fail)
      refine hK.out _ _ ?_ (fun hHeld => ?_)
      · ((try dsimp only); go_keep)
      clear hK K
      (try simp only [Act.put, List.setIfInBounds_toArray, List.set_cons_zero, List.set_cons_succ])
      refine wpAnyH_take (i := 13) (oi := _) (v := ?_) rfl (by kernel_rfl) (by kernel_rfl) (by kernel_rfl) (fun _ _ _ h => h) (Or.inl ⟨by rfl, ?_⟩) (by assumption) ?_
      rotate_left
      · intro w hSw
        go_simp
        try with_reducible rfl
      (try simp only [Act.put, List.setIfInBounds_toArray, List.set_cons_zero, List.set_cons_succ])
      refine wpAnyH_take (i := 14) (oi := _) (v := ?_) rfl (by kernel_rfl) (by kernel_rfl) (by kernel_rfl) (fun _ _ _ h => h) (Or.inl ⟨by rfl, ?_⟩) (by assumption) ?_
      rotate_left
      · intro w hSw
        go_simp
        try with_reducible rfl
      (try simp only [Act.put, List.setIfInBounds_toArray, List.set_cons_zero, List.set_cons_succ])
      refine wpAnyH_take (i := 15) (oi := _) (v := ?_) rfl (by kernel_rfl) (by kernel_rfl) (by kernel_rfl) (fun _ _ _ h => h) (Or.inl ⟨by rfl, ?_⟩) (by assumption) ?_
      rotate_left
      · intro w hSw
        go_simp
        try with_reducible rfl
      (try simp only [Act.put, List.setIfInBounds_toArray, List.set_cons_zero, List.set_cons_succ])
      refine wpAnyH_take (i := 16) (oi := _) (v := ?_) rfl (by kernel_rfl) (by kernel_rfl) (by kernel_rfl) (fun _ _ _ h => h) (Or.inl ⟨by rfl, ?_⟩) (by assumption) ?_
      rotate_left
      · intro w hSw
        go_simp
        try with_reducible rfl
      (try simp only [Act.put, List.setIfInBounds_toArray, List.set_cons_zero, List.set_cons_succ])
      refine wpAnyH_take (i := 17) (oi := _) (v := ?_) rfl (by kernel_rfl) (by kernel_rfl) (by kernel_rfl) (fun _ _ _ h => h) (Or.inl ⟨by rfl, ?_⟩) (by assumption) ?_
      rotate_left
      · intro w hSw
        go_simp
        try with_reducible rfl
      (try simp only [Act.put, List.setIfInBounds_toArray, List.set_cons_zero, List.set_cons_succ])
      refine wpAnyH_take (i := 20) (oi := _) (v := ?_) rfl (by kernel_rfl) (by kernel_rfl) (by kernel_rfl) (fun _ _ _ h => h) (Or.inl ⟨by rfl, ?_⟩) (by assumption) ?_
      rotate_left
      · intro w hSw
        go_simp
        try with_reducible rfl
      (try simp only [Act.put, List.setIfInBounds_toArray, List.set_cons_zero, List.set_cons_succ])
      refine wpAnyH_ready (rs := [18]) (by kernel_rfl) (by simp) ?_
      refine AllReadyH.cons (o := _) rfl (fun K hK => ?_) AllReadyH.nil
      go_simp
      refine hK.out _ _ ?_ (fun hHeld => ?_)
      · ((try dsimp only); go_keep)
      clear hK K
      (try simp only [Act.put, List.setIfInBounds_toArray, List.set_cons_zero, List.set_cons_succ])
      refine wpAnyH_ready (rs := [19]) (by kernel_rfl) (by simp) ?_
      refine AllReadyH.cons (o := _) rfl (fun K hK => ?_) AllReadyH.nil
      go_simp
      refine (CH.out _ _ (by decide) _ (reps_two (heap_alloc_new _ _))).mono ?_
      rintro e wn ⟨rfl, bn⟩
      have Bn : Below w.heap.size w wn := bn_then (by repeat (first | assumption | apply bn_drew | apply bn_alloc)) bn
      have Sn : Six g g1 g2 s a b wn := six_below bn (by repeat (first | assumption | apply six_drew | apply six_alloc))
      obtain ⟨⟨c0, c1⟩, ⟨c2, c3⟩, ⟨c4, c5⟩⟩ := Sn
      have Sn : Six g g1 g2 s a b wn := ⟨⟨c0, c1⟩, ⟨c2, c3⟩, ⟨c4, c5⟩⟩
      have e0 := Nat.ne_of_lt (World.block_lt_of_cell? wn _ c0)
      have e1 := Nat.ne_of_lt (World.block_lt_of_cell? wn _ c2)
      have e2 := Nat.ne_of_lt (World.block_lt_of_cell? wn _ c4)
      (try go_wp2_with fail)
      refine hK.out _ _ ?_ (fun hHeld => ?_)
      · ((try dsimp only); go_keep)
      clear hK K
      (try simp only [Act.put, List.setIfInBounds_toArray, List.set_cons_zero, List.set_cons_succ])
      refine wpAnyH_ready (rs := [21]) (by kernel_rfl) (by simp) ?_
      refine AllReadyH.cons (o := _) rfl (fun K hK => ?_) AllReadyH.nil
      go_simp
      refine (CO.out _).mono ?_
      rintro e wn ⟨rfl, bn⟩
      have Bn : Below w.heap.size w wn := bn_then (by repeat (first | assumption | apply bn_drew | apply bn_alloc)) bn
      have Sn : Six g g1 g2 s a b wn := six_below bn (by repeat (first | assumption | apply six_drew | apply six_alloc))
      obtain ⟨⟨c0, c1⟩, ⟨c2, c3⟩, ⟨c4, c5⟩⟩ := Sn
      have Sn : Six g g1 g2 s a b wn := ⟨⟨c0, c1⟩, ⟨c2, c3⟩, ⟨c4, c5⟩⟩
      have e0 := Nat.ne_of_lt (World.block_lt_of_cell? wn _ c0)
      have e1 := Nat.ne_of_lt (World.block_lt_of_cell? wn _ c2)
      have e2 := Nat.ne_of_lt (World.block_lt_of_cell? wn _ c4)
      (try go_wp2_with fail)
      refine hK.out _ _ ?_ (fun hHeld => ?_)
      · ((try dsimp only); go_keep)
      clear hK K
      (try simp only [Act.put, List.setIfInBounds_toArray, List.set_cons_zero, List.set_cons_succ])
      refine wpAnyH_take (i := 22) (oi := _) (v := ?_) rfl (by kernel_rfl) (by kernel_rfl) (by kernel_rfl) (fun _ _ _ h => h) (Or.inl ⟨by rfl, ?_⟩) (by assumption) ?_
      rotate_left
      · intro w hSw
        go_simp
        try with_reducible rfl
      (try simp only [Act.put, List.setIfInBounds_toArray, List.set_cons_zero, List.set_cons_succ])
      refine wpAnyH_take (i := 23) (oi := _) (v := ?_) rfl (by kernel_rfl) (by kernel_rfl) (by kernel_rfl) (fun _ _ _ h => h) (Or.inl ⟨by rfl, ?_⟩) (by assumption) ?_
      rotate_left
      · intro w hSw
        go_simp
        try with_reducible rfl
      (try simp only [Act.put, List.setIfInBounds_toArray, List.set_cons_zero, List.set_cons_succ])
      refine wpAnyH_take (i := 24) (oi := _) (v := ?_) rfl (by kernel_rfl) (by kernel_rfl) (by kernel_rfl) (fun _ _ _ h => h) (Or.inl ⟨by rfl, ?_⟩) (by assumption) ?_
      rotate_left
      · intro w hSw
        go_simp
        try with_reducible rfl
      (try simp only [Act.put, List.setIfInBounds_toArray, List.set_cons_zero, List.set_cons_succ])
      refine wpAnyH_take (i := 25) (oi := _) (v := ?_) rfl (by kernel_rfl) (by kernel_rfl) (by kernel_rfl) (fun _ _ _ h => h) (Or.inl ⟨by rfl, ?_⟩) (by assumption) ?_
      rotate_left
      · intro w hSw
        go_simp
        try with_reducible rfl
      (try simp only [Act.put, List.setIfInBounds_toArray, List.set_cons_zero, List.set_cons_succ])
      refine wpAnyH_take (i := 26) (oi := _) (v := ?_) rfl (by kernel_rfl) (by kernel_rfl) (by kernel_rfl) (fun _ _ _ h => h) (Or.inl ⟨by rfl, ?_⟩) (by assumption) ?_
      rotate_left
      · intro w hSw
        go_simp
        try with_reducible rfl
      (try simp only [Act.put, List.setIfInBounds_toArray, List.set_cons_zero, List.set_cons_succ])
      refine wpAnyH_ready (rs := [27]) (by kernel_rfl) (by simp) ?_
      refine AllReadyH.cons (o := _) rfl (fun K hK => ?_) AllReadyH.nil
      go_simp
      refine (CHs.out _).mono ?_
      rintro e wn ⟨rfl, bn⟩
      have Bn : Below w.heap.size w wn := bn_then (by repeat (first | assumption | apply bn_drew | apply bn_alloc)) bn
      have Sn : Six g g1 g2 s a b wn := six_below bn (by repeat (first | assumption | apply six_drew | apply six_alloc))
      obtain ⟨⟨c0, c1⟩, ⟨c2, c3⟩, ⟨c4, c5⟩⟩ := Sn
      have Sn : Six g g1 g2 s a b wn := ⟨⟨c0, c1⟩, ⟨c2, c3⟩, ⟨c4, c5⟩⟩
      have e0 := Nat.ne_of_lt (World.block_lt_of_cell? wn _ c0)
      have e1 := Nat.ne_of_lt (World.block_lt_of_cell? wn _ c2)
      have e2 := Nat.ne_of_lt (World.block_lt_of_cell? wn _ c4)
      (try go_wp2_with fail)
      refine hK.out _ _ ?_ (fun hHeld => ?_)
      · ((try dsimp only); go_keep)
      clear hK K
      (try simp only [Act.put, List.setIfInBounds_toArray, List.set_cons_zero, List.set_cons_succ])
      refine wpAnyH_take (i := 28) (oi := _) (v := ?_) rfl (by kernel_rfl) (by kernel_rfl) (by kernel_rfl) (fun _ _ _ h => h) (Or.inl ⟨by rfl, ?_⟩) (by assumption) ?_
      rotate_left
      · intro w hSw
        go_simp
        try with_reducible rfl
      (try simp only [Act.put, List.setIfInBounds_toArray, List.set_cons_zero, List.set_cons_succ])
      refine wpAnyH_take (i := 29) (oi := _) (v := ?_) rfl (by kernel_rfl) (by kernel_rfl) (by kernel_rfl) (fun _ _ _ h => h) (Or.inl ⟨by rfl, ?_⟩) (by assumption) ?_
      rotate_left
      · intro w hSw
        go_simp
        try with_reducible rfl
      (try simp only [Act.put, List.setIfInBounds_toArray, List.set_cons_zero, List.set_cons_succ])
      refine wpAnyH_take (i := 30) (oi := _) (v := ?_) rfl (by kernel_rfl) (by kernel_rfl) (by kernel_rfl) (fun _ _ _ h => h) (Or.inl ⟨by rfl, ?_⟩) (by assumption) ?_
      rotate_left
      · intro w hSw
        go_simp
        try with_reducible rfl
      (try simp only [Act.put, List.setIfInBounds_toArray, List.set_cons_zero, List.set_cons_succ])
      refine wpAnyH_take (i := 31) (oi := _) (v := ?_) rfl (by kernel_rfl) (by kernel_rfl) (by kernel_rfl) (fun _ _ _ h => h) (Or.inl ⟨by rfl, ?_⟩) (by assumption) ?_
      rotate_left
      · intro w hSw
        go_simp
        try with_reducible rfl
      (try simp only [Act.put, List.setIfInBounds_toArray, List.set_cons_zero, List.set_cons_succ])
      refine wpAnyH_ready (rs := [32]) (by kernel_rfl) (by simp) ?_
      refine AllReadyH.cons (o := _) rfl (fun K hK => ?_) AllReadyH.nil
      go_simp
      refine (CLB.out _).mono ?_
      rintro e wn ⟨rfl, bn⟩
      have Bn : Below w.heap.size w wn := bn_then (by repeat (first | assumption | apply bn_drew | apply bn_alloc)) bn
      have Sn : Six g g1 g2 s a b wn := six_below bn (by repeat (first | assumption | apply six_drew | apply six_alloc))
      obtain ⟨⟨c0, c1⟩, ⟨c2, c3⟩, ⟨c4, c5⟩⟩ := Sn
      have Sn : Six g g1 g2 s a b wn := ⟨⟨c0, c1⟩, ⟨c2, c3⟩, ⟨c4, c5⟩⟩
      have e0 := Nat.ne_of_lt (World.block_lt_of_cell? wn _ c0)
      have e1 := Nat.ne_of_lt (World.block_lt_of_cell? wn _ c2)
      have e2 := Nat.ne_of_lt (World.block_lt_of_cell? wn _ c4)
      (try go_wp2_with fail)
      refine hK.out _ _ ?_ (fun hHeld => ?_)
      · ((try dsimp only); go_keep)
      clear hK K
      (try simp only [Act.put, List.setIfInBounds_toArray, List.set_cons_zero, List.set_cons_succ])
      refine wpAnyH_take (i := 33) (oi := _) (v := ?_) rfl (by kernel_rfl) (by kernel_rfl) (by kernel_rfl) (fun _ _ _ h => h) (Or.inl ⟨by rfl, ?_⟩) (by assumption) ?_
      rotate_left
      · intro w hSw
        go_simp
        try with_reducible rfl
      (try simp only [Act.put, List.setIfInBounds_toArray, List.set_cons_zero, List.set_cons_succ])
      refine wpAnyH_take (i := 34) (oi := _) (v := ?_) rfl (by kernel_rfl) (by kernel_rfl) (by kernel_rfl) (fun _ _ _ h => h) (Or.inl ⟨by rfl, ?_⟩) (by assumption) ?_
      rotate_left
      · intro w hSw
        go_simp
        try with_reducible rfl
      (try simp only [Act.put, List.setIfInBounds_toArray, List.set_cons_zero, List.set_cons_succ])
      refine wpAnyH_take (i := 35) (oi := _) (v := undef) rfl (by kernel_rfl) (by kernel_rfl) (by kernel_rfl) (fun _ _ _ h => h) (Or.inr ⟨by rfl, rfl⟩) (by assumption) ?_
      (try simp only [Act.put, List.setIfInBounds_toArray, List.set_cons_zero, List.set_cons_succ])
      refine wpAnyH_take (i := 36) (oi := _) (v := undef) rfl (by kernel_rfl) (by kernel_rfl) (by kernel_rfl) (fun _ _ _ h => h) (Or.inr ⟨by rfl, rfl⟩) (by assumption) ?_
      (try simp only [Act.put, List.setIfInBounds_toArray, List.set_cons_zero, List.set_cons_succ])
      refine wpAnyH_take (i := 37) (oi := _) (v := undef) rfl (by kernel_rfl) (by kernel_rfl) (by kernel_rfl) (fun _ _ _ h => h) (Or.inr ⟨by rfl, rfl⟩) (by assumption) ?_
      (try simp only [Act.put, List.setIfInBounds_toArray, List.set_cons_zero, List.set_cons_succ])
      refine wpAnyH_take (i := 38) (oi := _) (v := undef) rfl (by kernel_rfl) (by kernel_rfl) (by kernel_rfl) (fun _ _ _ h => h) (Or.inr ⟨by rfl, rfl⟩) (by assumption) ?_
      (try simp only [Act.put, List.setIfInBounds_toArray, List.set_cons_zero, List.set_cons_succ])
      refine wpAnyH_take (i := 39) (oi := _) (v := ?_) rfl (by kernel_rfl) (by kernel_rfl) (by kernel_rfl) (fun _ _ _ h => h) (Or.inl ⟨by rfl, ?_⟩) (by assumption) ?_
      rotate_left
      · intro w hSw
        go_simp
        try with_reducible rfl
      (try simp only [Act.put, List.setIfInBounds_toArray, List.set_cons_zero, List.set_cons_succ])
      refine wpAnyH_take (i := 40) (oi := _) (v := ?_) rfl (by kernel_rfl) (by kernel_rfl) (by kernel_rfl) (fun _ _ _ h => h) (Or.inl ⟨by rfl, ?_⟩) (by assumption) ?_
      rotate_left
      · intro w hSw
        go_simp
        try with_reducible rfl
      (try simp only [Act.put, List.setIfInBounds_toArray, List.set_cons_zero, List.set_cons_succ])
      refine wpAnyH_take (i := 41) (oi := _) (v := ?_) rfl (by kernel_rfl) (by kernel_rfl) (by kernel_rfl) (fun _ _ _ h => h) (Or.inl ⟨by rfl, ?_⟩) (by assumption) ?_
      rotate_left
      · intro w hSw
        go_simp
        try with_reducible rfl
      (try simp only [Act.put, List.setIfInBounds_toArray, List.set_cons_zero, List.set_cons_succ])
      refine wpAnyH_ready (rs := [42]) (by kernel_rfl) (by simp) ?_
      refine AllReadyH.cons (o := _) rfl (fun K hK => ?_) AllReadyH.nil
      go_simp
      refine (KN.out _).mono ?_
      rintro e wn ⟨rfl, bn⟩
      have Bn : Below w.heap.size w wn := bn_then (by repeat (first | assumption | apply bn_drew | apply bn_alloc)) bn
      have Sn : Six g g1 g2 s a b wn := six_below bn (by repeat (first | assumption | apply six_drew | apply six_alloc))
      obtain ⟨⟨c0, c1⟩, ⟨c2, c3⟩, ⟨c4, c5⟩⟩ := Sn
      have Sn : Six g g1 g2 s a b wn := ⟨⟨c0, c1⟩, ⟨c2, c3⟩, ⟨c4, c5⟩⟩
      have e0 := Nat.ne_of_lt (World.block_lt_of_cell? wn _ c0)
      have e1 := Nat.ne_of_lt (World.block_lt_of_cell? wn _ c2)
      have e2 := Nat.ne_of_lt (World.block_lt_of_cell? wn _ c4)
      (try go_wp2_with fail)
      refine hK.out _ _ ?_ (fun hHeld => ?_)
      · ((try dsimp only); go_keep)
      clear hK K
      (try simp only [Act.put, List.setIfInBounds_toArray, List.set_cons_zero, List.set_cons_succ])
      refine wpAnyH_take (i := 43) (oi := _) (v := ?_) rfl (by kernel_rfl) (by kernel_rfl) (by kernel_rfl) (fun _ _ _ h => h) (Or.inl ⟨by rfl, ?_⟩) (by assumption) ?_
      rotate_left
      · intro w hSw
        go_simp
        try with_reducible rfl
      (try simp only [List.getElem_toArray, List.getElem_cons_succ, List.getElem_cons_zero])
      (try simp only [Act.put, List.setIfInBounds_toArray, List.set_cons_zero, List.set_cons_succ])
      refine wpAnyH_take (i := 44) (oi := _) (v := ?_) rfl (by kernel_rfl) (by kernel_rfl) (by kernel_rfl) (fun _ _ _ h => h) (Or.inl ⟨by rfl, ?_⟩) (by assumption) ?_
      rotate_left
      · intro w hSw
        go_simp
        try with_reducible rfl
      (try simp only [List.getElem_toArray, List.getElem_cons_succ, List.getElem_cons_zero])
      (try simp only [Act.put, List.setIfInBounds_toArray, List.set_cons_zero, List.set_cons_succ])
      refine wpAnyH_done (by kernel_rfl) ?_ _
      go_wp2
      go_ret
      refine ⟨rfl, ?_⟩
      repeat (first | assumption | apply bn_drew | apply bn_alloc)
    · have hy1 : decide (y = 0) = false := by simpa using hy
      have hy2 : (y == 0) = false := by simpa using hy
      have hb : off ≤ b.lo := H5.out.resolve_left hy
      have CLS2 := Lib.hid CLS.out
      have ws : IntKind.i64.wrap (x + y) = x + y := IntWalk.i64_in _ (by omega)
      clear H5 CLS
      go_wp2
      first
      | go_region_held3 (fun w' => w'.cell? ⟨g, 0, Option.none⟩ = some (.int .i64 s.lo) ∧ w'.cell? ⟨g, 1, Option.none⟩ = some (.int .i64 s.hi) ∧ w'.cell? ⟨g1, 0, Option.none⟩ = some (.int .i64 a.lo) ∧ w'.cell? ⟨g1, 1, Option.none⟩ = some (.int .i64 a.hi) ∧ w'.cell? ⟨g2, 0, Option.none⟩ = some (.int .i64 b.lo) ∧ w'.cell? ⟨g2, 1, Option.none⟩ = some (.int .i64 b.hi)) (go_keep) (first
        | (go_at_call 14
           with_reducible refine (CLA.out _).mono ?_
           rintro e wn ⟨rfl, bn⟩
           have Bn : Below w.heap.size w wn := bn_then (by repeat (first | assumption | apply bn_drew | apply bn_alloc)) bn
           have Sn : Six g g1 g2 s a b wn := six_below bn (by repeat (first | assumption | apply six_drew | apply six_alloc))
           obtain ⟨⟨c0, c1⟩, ⟨c2, c3⟩, ⟨c4, c5⟩⟩ := Sn
           have Sn : Six g g1 g2 s a b wn := ⟨⟨c0, c1⟩, ⟨c2, c3⟩, ⟨c4, c5⟩⟩
           have e0 := Nat.ne_of_lt (World.block_lt_of_cell? wn _ c0)
           have e1 := Nat.ne_of_lt (World.block_lt_of_cell? wn _ c2)
           have e2 := Nat.ne_of_lt (World.block_lt_of_cell? wn _ c4))
        | (go_at_call 14
           with_reducible refine (CLB.out _).mono ?_
           rintro e wn ⟨rfl, bn⟩
           have Bn : Below w.heap.size w wn := bn_then (by repeat (first | assumption | apply bn_drew | apply bn_alloc)) bn
           have Sn : Six g g1 g2 s a b wn := six_below bn (by repeat (first | assumption | apply six_drew | apply six_alloc))
           obtain ⟨⟨c0, c1⟩, ⟨c2, c3⟩, ⟨c4, c5⟩⟩ := Sn
           have Sn : Six g g1 g2 s a b wn := ⟨⟨c0, c1⟩, ⟨c2, c3⟩, ⟨c4, c5⟩⟩
           have e0 := Nat.ne_of_lt (World.block_lt_of_cell? wn _ c0)
           have e1 := Nat.ne_of_lt (World.block_lt_of_cell? wn _ c2)
           have e2 := Nat.ne_of_lt (World.block_lt_of_cell? wn _ c4))
        | (go_at_call 14
           with_reducible refine (CLS2.out _).mono ?_
           rintro e wn ⟨rfl, bn⟩
           have Bn : Below w.heap.size w wn := bn_then (by repeat (first | assumption | apply bn_drew | apply bn_alloc)) bn
           have Sn : Six g g1 g2 s a b wn := six_below bn (by repeat (first | assumption | apply six_drew | apply six_alloc))
           obtain ⟨⟨c0, c1⟩, ⟨c2, c3⟩, ⟨c4, c5⟩⟩ := Sn
           have Sn : Six g g1 g2 s a b wn := ⟨⟨c0, c1⟩, ⟨c2, c3⟩, ⟨c4, c5⟩⟩
           have e0 := Nat.ne_of_lt (World.block_lt_of_cell? wn _ c0)
           have e1 := Nat.ne_of_lt (World.block_lt_of_cell? wn _ c2)
           have e2 := Nat.ne_of_lt (World.block_lt_of_cell? wn _ c4))
        | (go_at_call 15
           with_reducible refine (CM.out _).mono ?_
           rintro e wn ⟨rfl, bn⟩
           have Bn : Below w.heap.size w wn := bn_then (by repeat (first | assumption | apply bn_drew | apply bn_alloc)) bn
           have Sn : Six g g1 g2 s a b wn := six_below bn (by repeat (first | assumption | apply six_drew | apply six_alloc))
           obtain ⟨⟨c0, c1⟩, ⟨c2, c3⟩, ⟨c4, c5⟩⟩ := Sn
           have Sn : Six g g1 g2 s a b wn := ⟨⟨c0, c1⟩, ⟨c2, c3⟩, ⟨c4, c5⟩⟩
           have e0 := Nat.ne_of_lt (World.block_lt_of_cell? wn _ c0)
           have e1 := Nat.ne_of_lt (World.block_lt_of_cell? wn _ c2)
           have e2 := Nat.ne_of_lt (World.block_lt_of_cell? wn _ c4))
        | (go_at_call 14
           with_reducible refine (CLM.out _).mono ?_
           rintro e wn ⟨rfl, bn⟩
           have Bn : Below w.heap.size w wn := bn_then (by repeat (first | assumption | apply bn_drew | apply bn_alloc)) bn
           have Sn : Six g g1 g2 s a b wn := six_below bn (by repeat (first | assumption | apply six_drew | apply six_alloc))
           obtain ⟨⟨c0, c1⟩, ⟨c2, c3⟩, ⟨c4, c5⟩⟩ := Sn
           have Sn : Six g g1 g2 s a b wn := ⟨⟨c0, c1⟩, ⟨c2, c3⟩, ⟨c4, c5⟩⟩
           have e0 := Nat.ne_of_lt (World.block_lt_of_cell? wn _ c0)
           have e1 := Nat.ne_of_lt (World.block_lt_of_cell? wn _ c2)
           have e2 := Nat.ne_of_lt (World.block_lt_of_cell? wn _ c4))
        | (go_at_call 16
           with_reducible refine (CH.out _ _ (by decide) _ (reps_two (heap_alloc_new _ _))).mono ?_
           rintro e wn ⟨rfl, bn⟩
           have Bn : Below w.heap.size w wn := bn_then (by repeat (first | assumption | apply bn_drew | apply bn_alloc)) bn
           have Sn : Six g g1 g2 s a b wn := six_below bn (by repeat (first | assumption | apply six_drew | apply six_alloc))
           obtain ⟨⟨c0, c1⟩, ⟨c2, c3⟩, ⟨c4, c5⟩⟩ := Sn
           have Sn : Six g g1 g2 s a b wn := ⟨⟨c0, c1⟩, ⟨c2, c3⟩, ⟨c4, c5⟩⟩
           have e0 := Nat.ne_of_lt (World.block_lt_of_cell? wn _ c0)
           have e1 := Nat.ne_of_lt (World.block_lt_of_cell? wn _ c2)
           have e2 := Nat.ne_of_lt (World.block_lt_of_cell? wn _ c4))
        | (go_at_call 23
           with_reducible refine (CO.out _).mono ?_
           rintro e wn ⟨rfl, bn⟩
           have Bn : Below w.heap.size w wn := bn_then (by repeat (first | assumption | apply bn_drew | apply bn_alloc)) bn
           have Sn : Six g g1 g2 s a b wn := six_below bn (by repeat (first | assumption | apply six_drew | apply six_alloc))
           obtain ⟨⟨c0, c1⟩, ⟨c2, c3⟩, ⟨c4, c5⟩⟩ := Sn
           have Sn : Six g g1 g2 s a b wn := ⟨⟨c0, c1⟩, ⟨c2, c3⟩, ⟨c4, c5⟩⟩
           have e0 := Nat.ne_of_lt (World.block_lt_of_cell? wn _ c0)
           have e1 := Nat.ne_of_lt (World.block_lt_of_cell? wn _ c2)
           have e2 := Nat.ne_of_lt (World.block_lt_of_cell? wn _ c4))
        | (go_at_call 24
           with_reducible refine (CHs.out _).mono ?_
           rintro e wn ⟨rfl, bn⟩
           have Bn : Below w.heap.size w wn := bn_then (by repeat (first | assumption | apply bn_drew | apply bn_alloc)) bn
           have Sn : Six g g1 g2 s a b wn := six_below bn (by repeat (first | assumption | apply six_drew | apply six_alloc))
           obtain ⟨⟨c0, c1⟩, ⟨c2, c3⟩, ⟨c4, c5⟩⟩ := Sn
           have Sn : Six g g1 g2 s a b wn := ⟨⟨c0, c1⟩, ⟨c2, c3⟩, ⟨c4, c5⟩⟩
           have e0 := Nat.ne_of_lt (World.block_lt_of_cell? wn _ c0)
           have e1 := Nat.ne_of_lt (World.block_lt_of_cell? wn _ c2)
           have e2 := Nat.ne_of_lt (World.block_lt_of_cell? wn _ c4))
        | (go_at_call 12
           with_reducible refine (KN.out _).mono ?_
           rintro e wn ⟨rfl, bn⟩
           have Bn : Below w.heap.size w wn := bn_then (by repeat (first | assumption | apply bn_drew | apply bn_alloc)) bn
           have Sn : Six g g1 g2 s a b wn := six_below bn (by repeat (first | assumption | apply six_drew | apply six_alloc))
           obtain ⟨⟨c0, c1⟩, ⟨c2, c3⟩, ⟨c4, c5⟩⟩ := Sn
           have Sn : Six g g1 g2 s a b wn := ⟨⟨c0, c1⟩, ⟨c2, c3⟩, ⟨c4, c5⟩⟩
           have e0 := Nat.ne_of_lt (World.block_lt_of_cell? wn _ c0)
           have e1 := Nat.ne_of_lt (World.block_lt_of_cell? wn _ c2)
           have e2 := Nat.ne_of_lt (World.block_lt_of_cell? wn _ c4)))
      | fail
      all_goals
        go_wp2
        go_ret
        refine ⟨rfl, ?_⟩
        repeat (first | assumption | apply bn_drew | apply bn_alloc)
end Go.Proofs.Ytfbjmaajdblbfaa.Spans
