/- The walks of PrrPlays: what is done with an episode and the document's own beside it. -/
import Derived.Test.YtgahjgeopjdcfaaPlays
attribute [local go_sem ↓] Go.wp_at_zero Go.wp_at_succ
namespace Go.Proofs.Ytgahjgeopjdcfaa.Prr
open Go.RowKit Go.OpenShut Go.Proofs.Ytgahjgeopjdcfaa.Aid
attribute [local go_sem] max_2 min_2 max2_i min2_i
def act (s : Ep) (k a b : Int) : Ep := if k % 4 = 2 then (sent s a).1 else if k % 4 = 3 then (first s).1 else ack s a b
def Did (g : Nat) (w : World) (s : Ep) (k a b : Int) (e : Ending) (w' : World) : Prop :=
  e = .returned (.tuple #[seven (act s k a b), .bool true]) ∧ IsEp w' g (act s k a b) ∧ w.grownBy w' (some g)
def three (w : World) (s : Ep) (k a b : Int) : World :=
  ((w.alloc (.cells #[.int .i64 s.mss, .int .i64 s.thresh, .int .i64 s.whole, .int .i64 s.delivered, .int .i64 s.out, .int .i64 s.left, .bool s.began] 40)).alloc
    (.cells #[.int .u8 k, .int .i64 a, .int .i64 b] 36)).alloc (.cells #[.int .i64 0, .int .i64 0, .int .i64 0, .int .i64 0, .int .i64 0, .int .i64 0, .bool false] 40)
/-- The three boxes of does, in any world behind. -/
def Boxes (w w' : World) (x : Ep) (k a b : Int) (y : Ep) : Prop := Blk w' w.heap.size 40 (cells x) ∧ Blk w' (w.heap.size + 1) 36 #[.int .u8 k, .int .i64 a, .int .i64 b] ∧ Blk w' (w.heap.size + 1 + 1) 40 (cells y)
def zero : Ep := ⟨0, 0, 0, 0, 0, 0, false⟩
theorem three_boxes (w : World) (s : Ep) (k a b : Int) : Boxes w (three w s k a b) s k a b zero := by
  refine ⟨((Blk.new w _ _).alloc _).alloc _, ?_, ?_⟩
  · have := (Blk.new (w.alloc (.cells #[.int .i64 s.mss, .int .i64 s.thresh, .int .i64 s.whole, .int .i64 s.delivered, .int .i64 s.out, .int .i64 s.left, .bool s.began] 40)) 36 #[.int .u8 k, .int .i64 a, .int .i64 b]).alloc (.cells #[.int .i64 0, .int .i64 0, .int .i64 0, .int .i64 0, .int .i64 0, .int .i64 0, .bool false] 40)
    simpa [three] using this
  · have := Blk.new ((w.alloc (.cells #[.int .i64 s.mss, .int .i64 s.thresh, .int .i64 s.whole, .int .i64 s.delivered, .int .i64 s.out, .int .i64 s.left, .bool s.began] 40)).alloc (.cells #[.int .u8 k, .int .i64 a, .int .i64 b] 36)) 40 #[.int .i64 0, .int .i64 0, .int .i64 0, .int .i64 0, .int .i64 0, .int .i64 0, .bool false]
    simpa [three, cells, zero] using this
theorem three_grown (w : World) (s : Ep) (k a b : Int) (row : Option Nat) : w.grownBy (three w s k a b) row := grown_alloc (grown_alloc (grown_alloc (grown_refl _ _) _) _) _
theorem three_size (w : World) (s : Ep) (k a b : Int) : (three w s k a b).heap.size = w.heap.size + 3 := by simp [three]
theorem Boxes.grown {w W w' : World} {x y : Ep} {k a b : Int} {g : Nat} (h : Boxes w W x k a b y) (hg : W.grownBy w' (some g)) (hlt : g < w.heap.size) : Boxes w w' x k a b y :=
  ⟨h.1.grown hg (by simp; omega), h.2.1.grown hg (by simp; omega), h.2.2.grown hg (by simp; omega)⟩
theorem Boxes.below {w W w' : World} {x y : Ep} {k a b : Int} {B : Nat} (h : Boxes w W x k a b y) (hg : Below B W w') (hB : w.heap.size + 3 ≤ B) : Boxes w w' x k a b y :=
  ⟨h.1.below hg (by omega), h.2.1.below hg (by omega), h.2.2.below hg (by omega)⟩
theorem Boxes.facts {w w' : World} {x y : Ep} {k a b : Int} (h : Boxes w w' x k a b y) : (∀ i, w'.frozen? ⟨w.heap.size, i, none⟩ = false) ∧ (∀ i, w'.frozen? ⟨w.heap.size + 1 + 1, i, none⟩ = false) ∧
    w'.cell? ⟨w.heap.size, 0, none⟩ = some (.int .i64 x.mss) ∧ w'.cell? ⟨w.heap.size, 1, none⟩ = some (.int .i64 x.thresh) ∧ w'.cell? ⟨w.heap.size, 2, none⟩ = some (.int .i64 x.whole) ∧ w'.cell? ⟨w.heap.size, 3, none⟩ = some (.int .i64 x.delivered) ∧
    w'.cell? ⟨w.heap.size, 4, none⟩ = some (.int .i64 x.out) ∧ w'.cell? ⟨w.heap.size, 5, none⟩ = some (.int .i64 x.left) ∧ w'.cell? ⟨w.heap.size, 6, none⟩ = some (.bool x.began) ∧
    w'.cell? ⟨w.heap.size + 1, 0, none⟩ = some (.int .u8 k) ∧ w'.cell? ⟨w.heap.size + 1, 1, none⟩ = some (.int .i64 a) ∧ w'.cell? ⟨w.heap.size + 1, 2, none⟩ = some (.int .i64 b) ∧
    w'.cell? ⟨w.heap.size + 1 + 1, 0, none⟩ = some (.int .i64 y.mss) ∧ w'.cell? ⟨w.heap.size + 1 + 1, 1, none⟩ = some (.int .i64 y.thresh) ∧ w'.cell? ⟨w.heap.size + 1 + 1, 2, none⟩ = some (.int .i64 y.whole) ∧ w'.cell? ⟨w.heap.size + 1 + 1, 3, none⟩ = some (.int .i64 y.delivered) ∧
    w'.cell? ⟨w.heap.size + 1 + 1, 4, none⟩ = some (.int .i64 y.out) ∧ w'.cell? ⟨w.heap.size + 1 + 1, 5, none⟩ = some (.int .i64 y.left) ∧ w'.cell? ⟨w.heap.size + 1 + 1, 6, none⟩ = some (.bool y.began) :=
  ⟨h.1.frozen, h.2.2.frozen, h.1.cell 0, h.1.cell 1, h.1.cell 2, h.1.cell 3, h.1.cell 4, h.1.cell 5, h.1.cell 6, h.2.1.cell 0, h.2.1.cell 1, h.2.1.cell 2, h.2.2.cell 0, h.2.2.cell 1, h.2.2.cell 2, h.2.2.cell 3, h.2.2.cell 4, h.2.2.cell 5, h.2.2.cell 6⟩
def put7 (W : World) (b : Nat) (s : Ep) : World := (((((((W.setCell ⟨b, 0, none⟩ (.int .i64 s.mss)).setCell ⟨b, 1, none⟩ (.int .i64 s.thresh)).setCell ⟨b, 2, none⟩ (.int .i64 s.whole)).setCell ⟨b, 3, none⟩ (.int .i64 s.delivered)).setCell ⟨b, 4, none⟩ (.int .i64 s.out)).setCell ⟨b, 5, none⟩ (.int .i64 s.left)).setCell ⟨b, 6, none⟩ (.bool s.began))
theorem put7_ep {W : World} {g b : Nat} {x : Ep} (h : IsEp W g x) (hb : g ≠ b) (s : Ep) : IsEp (put7 W b s) g x :=
  Blk.far (Blk.far (Blk.far (Blk.far (Blk.far (Blk.far (Blk.far h (p := ⟨b, 0, none⟩) hb _) (p := ⟨b, 1, none⟩) hb _) (p := ⟨b, 2, none⟩) hb _) (p := ⟨b, 3, none⟩) hb _) (p := ⟨b, 4, none⟩) hb _) (p := ⟨b, 5, none⟩) hb _) (p := ⟨b, 6, none⟩) hb _
theorem put7_grown {w W : World} {b : Nat} {row : Option Nat} (h : w.grownBy W row) (hb : w.heap.size ≤ b) (s : Ep) : w.grownBy (put7 W b s) row :=
  grown_setNew (grown_setNew (grown_setNew (grown_setNew (grown_setNew (grown_setNew (grown_setNew h (p := ⟨b, 0, none⟩) hb _) (p := ⟨b, 1, none⟩) hb _) (p := ⟨b, 2, none⟩) hb _) (p := ⟨b, 3, none⟩) hb _) (p := ⟨b, 4, none⟩) hb _) (p := ⟨b, 5, none⟩) hb _) (p := ⟨b, 6, none⟩) hb _
set_option maxHeartbeats 4000000 in
set_option maxRecDepth 100000 in
theorem does_sent (g : Nat) (s : Ep) (k a b : Int) (w : World) (hs : IsEp w g s) (ho : Ok s) (k0 : 0 ≤ k) (k1 : k ≤ 255) (hk : k % 4 = 2) :
    Calls Try.prog 18 #[.pointer (some ⟨g, 0, none⟩), .agg #[.int .i64 s.mss, .int .i64 s.thresh, .int .i64 s.whole, .int .i64 s.delivered, .int .i64 s.out, .int .i64 s.left, .bool s.began], .agg #[.int .u8 k, .int .i64 a, .int .i64 b]] w (Did g w s k a b) := by
  have hlt := hs.lt
  have HS := Lib.hid hs
  clear hs
  have r2 : act s k a b = (sent s a).1 := by rw [act, if_pos hk]
  have R2 := Lib.hid r2
  clear r2
  go_enter Try.func18, Try.ntmps18
  go_wp2_with fail
  refine (sent_calls g s _ _ (((HS.out.alloc _).alloc _).alloc _) ho).mono ?_
  rintro e w1 ⟨rfl, h1, g1⟩
  have B1 := (three_boxes w s k a b).grown g1 hlt
  have g2 := grown_trans (three_grown w s k a b (some g)) g1
  have hz : w.heap.size + 3 ≤ w1.heap.size := by have := g1.size; simpa using this
  obtain ⟨f1, f2, x0, x1, x2, x3, x4, x5, x6, y0, y1, y2, z0, z1, z2, z3, z4, z5, z6⟩ := B1.facts
  have BB := Lib.hid B1
  have H1 := Lib.hid h1
  have G2 := Lib.hid g2
  clear g1 B1 h1 g2
  by_cases c1 : a < 0
  · have e1 : sent s a = (s, 3) := by rw [sent, if_pos c1]
    rw [e1] at H1 R2
    rw [e1]
    go_wp2
    refine bodyPost_ret (v := .tuple #[seven s, .bool true]) (by simp [results, Try.results18, go_sem, seven, z0, z1, z2, z3, z4, z5, z6]) rfl ⟨by rw [R2.out], ?_, ?_⟩
    · rw [R2.out]
      exact put7_ep H1.out (b := w.heap.size + 1 + 1) (by omega) s
    · exact put7_grown G2.out (b := w.heap.size + 1 + 1) (by omega) s
  · by_cases c2 : a > s.left
    · have e1 : sent s a = (s, 4) := by rw [sent, if_neg c1, if_pos c2]
      rw [e1] at H1 R2
      rw [e1]
      go_wp2
      refine bodyPost_ret (v := .tuple #[seven s, .bool true]) (by simp [results, Try.results18, go_sem, seven, z0, z1, z2, z3, z4, z5, z6]) rfl ⟨by rw [R2.out], ?_, ?_⟩
      · rw [R2.out]
        exact put7_ep H1.out (b := w.heap.size + 1 + 1) (by omega) s
      · exact put7_grown G2.out (b := w.heap.size + 1 + 1) (by omega) s
    · have e1 : sent s a = ({ s with out := s.out + a, left := s.left - a }, 0) := by rw [sent, if_neg c1, if_neg c2]
      rw [e1] at H1 R2
      rw [e1]
      obtain ⟨q, hq⟩ : ∃ q, q = ({ s with out := s.out + a, left := s.left - a } : Ep) := ⟨_, rfl⟩
      rw [← hq] at H1 R2
      have HQ := Lib.hid hq
      clear hq
      go_wp2_with fail
      refine (ref_sent s a _ ho (by omega) (by omega)).mono ?_
      rintro e w2 ⟨rfl, b2⟩
      rw [← HQ.out]
      have B2 := BB.out.below b2 (by omega)
      have H2 := Lib.hid (Blk.below H1.out b2 (by omega))
      have G3 := Lib.hid (grown_trans G2.out (grown_below b2 _))
      have hz2 : w.heap.size + 3 ≤ w2.heap.size := Nat.le_trans hz b2.size
      obtain ⟨v1, v2, x0, x1, x2, x3, x4, x5, x6, y0, y1, y2, z0, z1, z2, z3, z4, z5, z6⟩ := B2.facts
      clear b2 BB B2
      rw [show seven q = .agg #[.int .i64 q.mss, .int .i64 q.thresh, .int .i64 q.whole, .int .i64 q.delivered, .int .i64 q.out, .int .i64 q.left, .bool q.began] from rfl]
      go_wp2
      refine bodyPost_ret (v := .tuple #[seven q, .bool true]) (by simp [results, Try.results18, go_sem, seven, z0, z1, z2, z3, z4, z5, z6]) rfl ⟨by rw [R2.out], ?_, ?_⟩
      · rw [R2.out]
        exact put7_ep H2.out (b := w.heap.size + 1 + 1) (by omega) q
      · exact put7_grown G3.out (b := w.heap.size + 1 + 1) (by omega) q
set_option maxHeartbeats 4000000 in
set_option maxRecDepth 100000 in
theorem does_first (g : Nat) (s : Ep) (k a b : Int) (w : World) (hs : IsEp w g s) (ho : Ok s) (k0 : 0 ≤ k) (k1 : k ≤ 255) (hk : k % 4 = 3) :
    Calls Try.prog 18 #[.pointer (some ⟨g, 0, none⟩), .agg #[.int .i64 s.mss, .int .i64 s.thresh, .int .i64 s.whole, .int .i64 s.delivered, .int .i64 s.out, .int .i64 s.left, .bool s.began], .agg #[.int .u8 k, .int .i64 a, .int .i64 b]] w (Did g w s k a b) := by
  have hlt := hs.lt
  have HS := Lib.hid hs
  clear hs
  have r2 : act s k a b = (first s).1 := by rw [act, if_neg (by omega), if_pos hk]
  have R2 := Lib.hid r2
  clear r2
  go_enter Try.func18, Try.ntmps18
  go_wp2_with fail
  refine (first_calls g s _ (((HS.out.alloc _).alloc _).alloc _) ho).mono ?_
  rintro e w1 ⟨rfl, h1, g1⟩
  have B1 := (three_boxes w s k a b).grown g1 hlt
  have g2 := grown_trans (three_grown w s k a b (some g)) g1
  have hz : w.heap.size + 3 ≤ w1.heap.size := by have := g1.size; simpa using this
  obtain ⟨f1, f2, x0, x1, x2, x3, x4, x5, x6, y0, y1, y2, z0, z1, z2, z3, z4, z5, z6⟩ := B1.facts
  have BB := Lib.hid B1
  have H1 := Lib.hid h1
  have G2 := Lib.hid g2
  clear g1 B1 h1 g2
  by_cases c1 : s.began = true
  · have e1 : first s = (s, 13) := by rw [first, if_pos (.inl c1)]
    rw [e1] at H1 R2
    rw [e1]
    rw [c1] at x6
    go_wp2
    have e3 : s = ⟨s.mss, s.thresh, s.whole, s.delivered, s.out, s.left, true⟩ := by rw [← c1]
    refine bodyPost_ret (v := .tuple #[seven ⟨s.mss, s.thresh, s.whole, s.delivered, s.out, s.left, true⟩, .bool true]) (by simp [results, Try.results18, go_sem, seven, z0, z1, z2, z3, z4, z5, z6]) rfl ⟨by rw [R2.out, ← e3], ?_, ?_⟩
    · rw [R2.out]
      exact put7_ep H1.out (b := w.heap.size + 1 + 1) (by omega) ⟨s.mss, s.thresh, s.whole, s.delivered, s.out, s.left, true⟩
    · exact put7_grown G2.out (b := w.heap.size + 1 + 1) (by omega) ⟨s.mss, s.thresh, s.whole, s.delivered, s.out, s.left, true⟩
  · by_cases c2 : s.out > 0
    · have e1 : first s = (s, 13) := by rw [first, if_pos (.inr c2)]
      rw [e1] at H1 R2
      rw [e1]
      have c3 : s.began = false := by simpa using c1
      rw [c3] at x6
      go_wp2
      have e3 : s = ⟨s.mss, s.thresh, s.whole, s.delivered, s.out, s.left, false⟩ := by rw [← c3]
      refine bodyPost_ret (v := .tuple #[seven ⟨s.mss, s.thresh, s.whole, s.delivered, s.out, s.left, false⟩, .bool true]) (by simp [results, Try.results18, go_sem, seven, z0, z1, z2, z3, z4, z5, z6]) rfl ⟨by rw [R2.out, ← e3], ?_, ?_⟩
      · rw [R2.out]
        exact put7_ep H1.out (b := w.heap.size + 1 + 1) (by omega) ⟨s.mss, s.thresh, s.whole, s.delivered, s.out, s.left, false⟩
      · exact put7_grown G2.out (b := w.heap.size + 1 + 1) (by omega) ⟨s.mss, s.thresh, s.whole, s.delivered, s.out, s.left, false⟩
    · have c3 : s.began = false := by simpa using c1
      have e1 : first s = ({ s with began := true, left := max s.left s.mss }, 0) := by rw [first, if_neg (by simp [c3]; omega)]
      rw [e1] at H1 R2
      rw [e1]
      rw [c3] at x6
      go_wp2
      refine bodyPost_ret (v := .tuple #[seven ⟨s.mss, s.thresh, s.whole, s.delivered, s.out, max s.left s.mss, true⟩, .bool true]) (by simp [results, Try.results18, go_sem, seven, z0, z1, z2, z3, z4, z5, z6]) rfl ⟨by rw [R2.out], ?_, ?_⟩
      · rw [R2.out]
        exact put7_ep (Blk.far (Blk.far H1.out (p := ⟨w.heap.size, 6, none⟩) (by simp only; omega) _) (p := ⟨w.heap.size, 5, none⟩) (by simp only; omega) _) (b := w.heap.size + 1 + 1) (by omega) ⟨s.mss, s.thresh, s.whole, s.delivered, s.out, max s.left s.mss, true⟩
      · exact put7_grown (grown_setNew (grown_setNew G2.out (p := ⟨w.heap.size, 6, none⟩) (Nat.le_refl _) _) (p := ⟨w.heap.size, 5, none⟩) (Nat.le_refl _) _) (b := w.heap.size + 1 + 1) (by omega) ⟨s.mss, s.thresh, s.whole, s.delivered, s.out, max s.left s.mss, true⟩
set_option maxHeartbeats 4000000 in
set_option maxRecDepth 100000 in
theorem does_ack (g : Nat) (s : Ep) (k a b : Int) (w : World) (hs : IsEp w g s) (ho : Ok s) (k0 : 0 ≤ k) (k1 : k ≤ 255) (hk2 : k % 4 ≠ 2) (hk3 : k % 4 ≠ 3) :
    Calls Try.prog 18 #[.pointer (some ⟨g, 0, none⟩), .agg #[.int .i64 s.mss, .int .i64 s.thresh, .int .i64 s.whole, .int .i64 s.delivered, .int .i64 s.out, .int .i64 s.left, .bool s.began], .agg #[.int .u8 k, .int .i64 a, .int .i64 b]] w (Did g w s k a b) := by
  have hlt := hs.lt
  have HS := Lib.hid hs
  clear hs
  have r2 : act s k a b = ack s a b := by rw [act, if_neg hk2, if_neg hk3]
  have R2 := Lib.hid r2
  clear r2
  go_enter Try.func18, Try.ntmps18
  go_wp2_with fail
  refine (ref_ack s a b _ ho).mono ?_
  rintro e w1 ⟨rfl, b1⟩
  have B1 := (three_boxes w s k a b).below b1 (by simp)
  obtain ⟨f1, f2, x0, x1, x2, x3, x4, x5, x6, y0, y1, y2, z0, z1, z2, z3, z4, z5, z6⟩ := B1.facts
  have hz : w.heap.size + 3 ≤ w1.heap.size := by have := b1.size; simpa using this
  have h1 : IsEp w1 g s := Blk.below (((HS.out.alloc _).alloc _).alloc _) b1 (by simp; omega)
  have g2 := grown_trans (three_grown w s k a b (some g)) (grown_below b1 _)
  have BB := Lib.hid B1
  have H1 := Lib.hid h1
  have G2 := Lib.hid g2
  clear B1 b1 h1 g2
  obtain ⟨q, hq⟩ : ∃ q, q = ack s a b := ⟨_, rfl⟩
  rw [← hq] at R2
  rw [← hq]
  have HQ := Lib.hid hq
  clear hq
  rw [show seven q = .agg #[.int .i64 q.mss, .int .i64 q.thresh, .int .i64 q.whole, .int .i64 q.delivered, .int .i64 q.out, .int .i64 q.left, .bool q.began] from rfl]
  go_wp2_with fail
  obtain ⟨W2, hW2⟩ : ∃ W2, W2 = w1.alloc (.cells #[.int .i64 q.mss, .int .i64 q.thresh, .int .i64 q.whole, .int .i64 q.delivered, .int .i64 q.out, .int .i64 q.left, .bool q.began] 40) := ⟨_, rfl⟩
  rw [← hW2]
  have h2 : IsEp W2 g s := by rw [hW2]; exact Blk.alloc H1.out _
  have B2 : Boxes w W2 s k a b zero := by rw [hW2]; exact BB.out.below ((Below.refl _ w1).alloc (Nat.le_refl _) _) hz
  have G3 : w.grownBy W2 (some g) := by rw [hW2]; exact grown_alloc G2.out _
  have C2 : Blk W2 w1.heap.size 40 (cells q) := by rw [hW2]; exact Blk.new w1 _ _
  obtain ⟨t1, t2, x0, x1, x2, x3, x4, x5, x6, y0, y1, y2, z0, z1, z2, z3, z4, z5, z6⟩ := B2.facts
  have u0 : W2.cell? ⟨w1.heap.size, 0, none⟩ = some (.int .i64 q.mss) := C2.cell 0
  have u1 : W2.cell? ⟨w1.heap.size, 1, none⟩ = some (.int .i64 q.thresh) := C2.cell 1
  have u2 : W2.cell? ⟨w1.heap.size, 2, none⟩ = some (.int .i64 q.whole) := C2.cell 2
  have u3 : W2.cell? ⟨w1.heap.size, 3, none⟩ = some (.int .i64 q.delivered) := C2.cell 3
  have u4 : W2.cell? ⟨w1.heap.size, 4, none⟩ = some (.int .i64 q.out) := C2.cell 4
  have u5 : W2.cell? ⟨w1.heap.size, 5, none⟩ = some (.int .i64 q.left) := C2.cell 5
  have u6 : W2.cell? ⟨w1.heap.size, 6, none⟩ = some (.bool q.began) := C2.cell 6
  have H2 := Lib.hid h2
  have BB2 := Lib.hid B2
  have CC2 := Lib.hid C2
  have GG3 := Lib.hid G3
  clear hW2 h2 B2 C2 G3 BB G2 H1
  generalize w1.heap.size = p at *
  have n1 : p ≠ w.heap.size + 1 + 1 := by omega
  have n2 : w.heap.size + 1 + 1 ≠ p := by omega
  go_region_held3 (fun w' => w'.cell? ⟨p, 0, none⟩ = some (.int .i64 q.mss) ∧ w'.cell? ⟨p, 1, none⟩ = some (.int .i64 q.thresh) ∧ w'.cell? ⟨p, 2, none⟩ = some (.int .i64 q.whole) ∧ w'.cell? ⟨p, 3, none⟩ = some (.int .i64 q.delivered) ∧ w'.cell? ⟨p, 4, none⟩ = some (.int .i64 q.out) ∧ w'.cell? ⟨p, 5, none⟩ = some (.int .i64 q.left) ∧ w'.cell? ⟨p, 6, none⟩ = some (.bool q.began) ∧ w'.cell? ⟨w.heap.size + 1, 1, none⟩ = some (.int .i64 a) ∧ w'.cell? ⟨w.heap.size + 1, 2, none⟩ = some (.int .i64 b)) (go_keep) (first
    | (go_at_call 9
       refine (ack_calls g s a b _ (Blk.drew H2.out) ho).mono ?_
       rintro e w5 ⟨rfl, h5, g5⟩
       rw [← HQ.out] at h5
       rw [← HQ.out]
       have B5 := (show Boxes w W2.drew s k a b zero from BB2.out).grown g5 hlt
       have C5 := (Blk.drew CC2.out).grown g5 (by simp; omega)
       have v0 : w5.cell? ⟨p, 0, none⟩ = some (.int .i64 q.mss) := C5.cell 0
       have v1 : w5.cell? ⟨p, 1, none⟩ = some (.int .i64 q.thresh) := C5.cell 1
       have v2 : w5.cell? ⟨p, 2, none⟩ = some (.int .i64 q.whole) := C5.cell 2
       have v3 : w5.cell? ⟨p, 3, none⟩ = some (.int .i64 q.delivered) := C5.cell 3
       have v4 : w5.cell? ⟨p, 4, none⟩ = some (.int .i64 q.out) := C5.cell 4
       have v5 : w5.cell? ⟨p, 5, none⟩ = some (.int .i64 q.left) := C5.cell 5
       have v6 : w5.cell? ⟨p, 6, none⟩ = some (.bool q.began) := C5.cell 6
       obtain ⟨t3, t4, r0, r1, r2, r3, r4, r5, r6, j0, j1, j2, q0, q1, q2, q3, q4, q5, q6⟩ := B5.facts
       clear t3 r0 r1 r2 r3 r4 r5 r6 B5 C5))
  go_wp2
  refine bodyPost_ret (v := .tuple #[seven q, .bool true]) (by simp [results, Try.results18, go_sem, seven, q0, q1, q2, q3, q4, q5, q6]) rfl ⟨by rw [R2.out], ?_, ?_⟩
  · rw [R2.out]
    exact put7_ep h5 (b := w.heap.size + 1 + 1) (by omega) q
  · exact put7_grown (grown_trans (grown_drew GG3.out) g5) (b := w.heap.size + 1 + 1) (by omega) q
theorem act_ok (s : Ep) (k a b B : Int) (ho : Ok s) (hB : s.out + s.left ≤ B) (hB2 : 1099511627777 ≤ B) (hB3 : B + 1048576 ≤ 1125899906842624) : Ok (act s k a b) ∧ (act s k a b).out + (act s k a b).left ≤ B + 1048576 := by
  unfold act
  split
  · have := sent_ok s a B ho hB (by omega)
    exact ⟨this.1, by omega⟩
  · split
    · have := first_ok s B ho hB (by omega) (by omega)
      exact ⟨this.1, by omega⟩
    · exact ack_ok s a b B ho hB hB2 hB3
theorem does_calls (g : Nat) (s : Ep) (k a b : Int) (w : World) (hs : IsEp w g s) (ho : Ok s) (k0 : 0 ≤ k) (k1 : k ≤ 255) :
    Calls Try.prog 18 #[.pointer (some ⟨g, 0, none⟩), .agg #[.int .i64 s.mss, .int .i64 s.thresh, .int .i64 s.whole, .int .i64 s.delivered, .int .i64 s.out, .int .i64 s.left, .bool s.began], .agg #[.int .u8 k, .int .i64 a, .int .i64 b]] w (Did g w s k a b) := by
  by_cases h2 : k % 4 = 2
  · exact does_sent g s k a b w hs ho k0 k1 h2
  · by_cases h3 : k % 4 = 3
    · exact does_first g s k a b w hs ho k0 k1 h3
    · exact does_ack g s k a b w hs ho k0 k1 h2 h3
end Go.Proofs.Ytgahjgeopjdcfaa.Prr
