/- What chapter 17's laws do with a window and the document's own beside it. -/
import Derived.Test.YthafjgaleonbgaaWinLaws
import Derived.Deep.RegionHeld3
import Derived.Deep.DrawnRows
import Derived.Deep.DeepCutAuto
attribute [local go_sem ↓] Go.wp_at_zero Go.wp_at_succ
namespace Go.Proofs.Ythafjgaleonbgaa.Window
open Go.RowKit Go.OpenShut Go.Proofs.Ythafjgaleonbgaa.Aid
attribute [local go_sem] max_2 min_2 max2_i min2_i
def XB (x : Win) : Prop := 0 ≤ x.mss ∧ x.mss ≤ 2097152 ∧ 0 ≤ x.most ∧ x.most ≤ 2097152 ∧ 0 ≤ x.cwnd ∧ x.cwnd ≤ 2097152 ∧ 0 ≤ x.thresh ∧ x.thresh ≤ 2097152 ∧ 0 ≤ x.count ∧ x.count ≤ 2097152
theorem xb_ok {s : Win} (h : Ok s) : XB s := by
  obtain ⟨o1, o2, o3, o4, o5, o6, o7, o8, o9, o10⟩ := h
  unfold XB
  omega
def five (v : Win) : Value := .agg #[.int .i64 v.mss, .int .i64 v.most, .int .i64 v.cwnd, .int .i64 v.thresh, .int .i64 v.count]
def RefGives (w : World) (v : Win) (e : Ending) (w' : World) : Prop := e = .returned (five v) ∧ Below w.heap.size w w'
theorem two_boxes (w : World) (o1 o2 : Obj) : Below w.heap.size w ((w.alloc o1).alloc o2) := ((Below.refl _ w).alloc (Nat.le_refl _) _).alloc (by simp) _
theorem ref_cut (x : Win) (a : Int) (w : World) (h : XB x) : Calls Try.prog 54 #[.agg #[.int .i64 x.mss, .int .i64 x.most, .int .i64 x.cwnd, .int .i64 x.thresh, .int .i64 x.count], .int .i64 a] w (RefGives w (cut x a)) := by
  obtain ⟨mss, most, cwnd, thresh, count⟩ := x
  obtain ⟨h1, h2, h3, h4, h5, h6, h7, h8, h9, h10⟩ := h
  simp only at *
  go_enter Try.func54, Try.ntmps54
  go_wp2
  refine bodyPost_ret (v := five (cut ⟨mss, most, cwnd, thresh, count⟩ a)) (by simp [results, Try.results54, go_sem, five, cut]) rfl ⟨rfl, ?_⟩
  exact two_boxes w _ _
theorem ref_set (x : Win) (a : Int) (w : World) : Calls Try.prog 55 #[.agg #[.int .i64 x.mss, .int .i64 x.most, .int .i64 x.cwnd, .int .i64 x.thresh, .int .i64 x.count], .int .i64 a] w (RefGives w (set_ x a)) := by
  obtain ⟨mss, most, cwnd, thresh, count⟩ := x
  simp only at *
  go_enter Try.func55, Try.ntmps55
  go_wp2
  refine bodyPost_ret (v := five (set_ ⟨mss, most, cwnd, thresh, count⟩ a)) (by simp [results, Try.results55, go_sem, five, set_]) rfl ⟨rfl, ?_⟩
  exact two_boxes w _ _
theorem ref_lift (x : Win) (a b : Int) (w : World) : Calls Try.prog 56 #[.agg #[.int .i64 x.mss, .int .i64 x.most, .int .i64 x.cwnd, .int .i64 x.thresh, .int .i64 x.count], .int .i64 a, .int .i64 b] w (RefGives w (lift x a b)) := by
  obtain ⟨mss, most, cwnd, thresh, count⟩ := x
  simp only at *
  go_enter Try.func56, Try.ntmps56
  go_wp2
  refine bodyPost_ret (v := five (lift ⟨mss, most, cwnd, thresh, count⟩ a b)) (by simp [results, Try.results56, go_sem, five, lift]) rfl ⟨rfl, ?_⟩
  exact two_boxes w _ _
theorem ref_grow (x : Win) (a : Int) (w : World) (h : XB x) : Calls Try.prog 57 #[.agg #[.int .i64 x.mss, .int .i64 x.most, .int .i64 x.cwnd, .int .i64 x.thresh, .int .i64 x.count], .int .i64 a] w (RefGives w (grow x a)) := by
  obtain ⟨mss, most, cwnd, thresh, count⟩ := x
  obtain ⟨h1, h2, h3, h4, h5, h6, h7, h8, h9, h10⟩ := h
  simp only at *
  by_cases c1 : a < 1
  · rw [grow, if_pos c1]
    go_enter Try.func57, Try.ntmps57
    go_wp2
    refine bodyPost_ret (v := five ⟨mss, most, cwnd, thresh, count⟩) (by simp [results, Try.results57, go_sem, five]) rfl ⟨rfl, ?_⟩
    exact two_boxes w _ _
  · rw [grow, if_neg c1]
    by_cases c2 : cwnd < thresh
    · rw [grow0, if_pos c2]
      go_enter Try.func57, Try.ntmps57
      go_wp2
      refine bodyPost_ret (v := five { slowly ⟨mss, most, cwnd, thresh, count⟩ a with cwnd := min (slowly ⟨mss, most, cwnd, thresh, count⟩ a).cwnd (slowly ⟨mss, most, cwnd, thresh, count⟩ a).most }) (by simp [results, Try.results57, go_sem, five, slowly]) rfl ⟨rfl, ?_⟩
      exact two_boxes w _ _
    · rw [grow0, if_neg c2]
      by_cases c3 : count + min a cwnd ≥ cwnd
      · rw [careful, if_pos c3]
        go_enter Try.func57, Try.ntmps57
        go_wp2
        refine bodyPost_ret (v := five ⟨mss, most, min (cwnd + mss) most, thresh, count + min a cwnd - cwnd⟩) (by simp [results, Try.results57, go_sem, five]) rfl ⟨rfl, ?_⟩
        exact two_boxes w _ _
      · rw [careful, if_neg c3]
        go_enter Try.func57, Try.ntmps57
        go_wp2
        refine bodyPost_ret (v := five ⟨mss, most, min cwnd most, thresh, count + min a cwnd⟩) (by simp [results, Try.results57, go_sem, five]) rfl ⟨rfl, ?_⟩
        exact two_boxes w _ _
def act (s : Win) (k a b : Int) : Win :=
  if k % 6 = 2 then cut s a else if k % 6 = 3 then set_ s a else if k % 6 = 4 then { s with cwnd := s.mss } else if k % 6 = 5 then lift s a b else grow s a
def ract (x : Win) (k a b : Int) : Win :=
  if k % 6 = 2 then cut x a else if k % 6 = 3 then set_ x a else if k % 6 = 4 then set_ x x.mss else if k % 6 = 5 then lift x a b else grow x a
def said (s x : Win) (k a : Int) : Bool := if k % 6 = 2 then (cut s a).thresh == (cut x a).thresh else true
/-- What a call of does leaves. -/
def Did (g : Nat) (w : World) (s x : Win) (k a b : Int) (e : Ending) (w' : World) : Prop :=
  e = .returned (.tuple #[five (ract x k a b), .bool (said s x k a)]) ∧ IsWin w' g (act s k a b) ∧ w.grownBy w' (some g)
def zeroWin : Win := ⟨0, 0, 0, 0, 0⟩
structure Bx (w0 W : World) (x : Win) (k a b : Int) : Prop where
  px : Blk W w0.heap.size 35 (cells x)
  po : Blk W (w0.heap.size + 1) 39 #[.int .u8 k, .int .i64 a, .int .i64 b]
  pr : Blk W (w0.heap.size + 1 + 1) 35 (cells zeroWin)
theorem Bx.below {w0 w w' : World} {x : Win} {k a b : Int} (h : Bx w0 w x k a b) (hb : Below w.heap.size w w') : Bx w0 w' x k a b := ⟨h.px.below hb h.px.lt, h.po.below hb h.po.lt, h.pr.below hb h.pr.lt⟩
theorem Bx.grown {w0 w w' : World} {x : Win} {k a b : Int} {g : Nat} (h : Bx w0 w x k a b) (hg : w.grownBy w' (some g)) (hl : g < w0.heap.size) : Bx w0 w' x k a b :=
  ⟨h.px.grown hg (by simp; omega), h.po.grown hg (by simp; omega), h.pr.grown hg (by simp; omega)⟩
def boxes (w : World) (x : Win) (k a b : Int) : World := ((w.alloc (.cells (cells x) 35)).alloc (.cells #[.int .u8 k, .int .i64 a, .int .i64 b] 39)).alloc (.cells (cells zeroWin) 35)
theorem boxes_bx (w : World) (x : Win) (k a b : Int) : Bx w (boxes w x k a b) x k a b := by
  unfold boxes
  refine ⟨((Blk.new w 35 _).alloc _).alloc _, ?_, ?_⟩
  · have := (Blk.new (w.alloc (.cells (cells x) 35)) 39 #[.int .u8 k, .int .i64 a, .int .i64 b]).alloc (.cells (cells zeroWin) 35)
    simpa using this
  · have := Blk.new ((w.alloc (.cells (cells x) 35)).alloc (.cells #[.int .u8 k, .int .i64 a, .int .i64 b] 39)) 35 (cells zeroWin)
    simpa using this
theorem boxes_win {w : World} {g : Nat} {s : Win} (h : IsWin w g s) (x : Win) (k a b : Int) : IsWin (boxes w x k a b) g s := ((Blk.alloc h _).alloc _).alloc _
theorem boxes_grown (w : World) (g : Nat) (x : Win) (k a b : Int) : w.grownBy (boxes w x k a b) (some g) := grown_alloc (grown_alloc (grown_alloc (grown_refl _ _) _) _) _
def set5 (W : World) (b : Nat) (s : Win) : World :=
  ((((W.setCell ⟨b, 0, none⟩ (.int .i64 s.mss)).setCell ⟨b, 1, none⟩ (.int .i64 s.most)).setCell ⟨b, 2, none⟩ (.int .i64 s.cwnd)).setCell ⟨b, 3, none⟩ (.int .i64 s.thresh)).setCell ⟨b, 4, none⟩ (.int .i64 s.count)
theorem set5_blk {W : World} {b : Nat} {z : Win} (h : Blk W b 35 (cells z)) (s : Win) : Blk (set5 W b s) b 35 (cells s) := (((((h.set_ 0 _).set_ 1 _).set_ 2 _).set_ 3 _).set_ 4 _).eq rfl
theorem set5_far {W : World} {g b : Nat} {s : Win} (h : IsWin W g s) (hne : g ≠ b) (v : Win) : IsWin (set5 W b v) g s := ((((Blk.far h hne _).far hne _).far hne _).far hne _).far hne _
theorem set5_grown {w W : World} {b : Nat} {row : Option Nat} (h : w.grownBy W row) (hb : w.heap.size ≤ b) (v : Win) : w.grownBy (set5 W b v) row :=
  grown_setNew (grown_setNew (grown_setNew (grown_setNew (grown_setNew h hb _) hb _) hb _) hb _) hb _
theorem xfacts {w0 W : World} {x : Win} {k a b : Int} (h : Bx w0 W x k a b) : (∀ i, W.frozen? ⟨w0.heap.size + 1 + 1, i, none⟩ = false) ∧ W.cell? ⟨w0.heap.size, 0, none⟩ = some (.int .i64 x.mss) ∧ W.cell? ⟨w0.heap.size, 1, none⟩ = some (.int .i64 x.most) ∧ W.cell? ⟨w0.heap.size, 2, none⟩ = some (.int .i64 x.cwnd) ∧ W.cell? ⟨w0.heap.size, 3, none⟩ = some (.int .i64 x.thresh) ∧ W.cell? ⟨w0.heap.size, 4, none⟩ = some (.int .i64 x.count) ∧
    W.cell? ⟨w0.heap.size + 1, 0, none⟩ = some (.int .u8 k) ∧ W.cell? ⟨w0.heap.size + 1, 1, none⟩ = some (.int .i64 a) ∧ W.cell? ⟨w0.heap.size + 1, 2, none⟩ = some (.int .i64 b) ∧
    W.cell? ⟨w0.heap.size + 1 + 1, 0, none⟩ = some (.int .i64 0) ∧ W.cell? ⟨w0.heap.size + 1 + 1, 1, none⟩ = some (.int .i64 0) ∧ W.cell? ⟨w0.heap.size + 1 + 1, 2, none⟩ = some (.int .i64 0) ∧ W.cell? ⟨w0.heap.size + 1 + 1, 3, none⟩ = some (.int .i64 0) ∧ W.cell? ⟨w0.heap.size + 1 + 1, 4, none⟩ = some (.int .i64 0) :=
  ⟨h.pr.frozen, h.px.cell 0, h.px.cell 1, h.px.cell 2, h.px.cell 3, h.px.cell 4, h.po.cell 0, h.po.cell 1, h.po.cell 2, h.pr.cell 0, h.pr.cell 1, h.pr.cell 2, h.pr.cell 3, h.pr.cell 4⟩
set_option maxHeartbeats 4000000 in
set_option maxRecDepth 100000 in
theorem does_set (g : Nat) (s x : Win) (k a b : Int) (w : World) (hs : IsWin w g s) (k0 : 0 ≤ k) (k1 : k ≤ 255) (hk : k % 6 = 3) :
    Calls Try.prog 19 #[.pointer (some ⟨g, 0, none⟩), .agg #[.int .i64 x.mss, .int .i64 x.most, .int .i64 x.cwnd, .int .i64 x.thresh, .int .i64 x.count], .agg #[.int .u8 k, .int .i64 a, .int .i64 b]] w (Did g w s x k a b) := by
  have hlt := hs.lt
  have r1 : ract x k a b = set_ x a := by rw [ract, if_neg (by omega), if_pos hk]
  have r2 : act s k a b = set_ s a := by rw [act, if_neg (by omega), if_pos hk]
  have r3 : said s x k a = true := by rw [said, if_neg (by omega)]
  obtain ⟨v, hv⟩ : ∃ v, v = ract x k a b := ⟨_, rfl⟩
  obtain ⟨q, hq⟩ : ∃ q, q = act s k a b := ⟨_, rfl⟩
  have D := Lib.hid (show Did g w s x k a b = fun e w' => e = .returned (.tuple #[five v, .bool true]) ∧ IsWin w' g q ∧ w.grownBy w' (some g) by unfold Did; rw [← hv, ← hq, r3])
  rw [D.out]
  have C1 := Lib.hid (fun (W : World) (h : IsWin W g s) => set_calls g s a W h)
  have C2 := Lib.hid (fun (W : World) => ref_set x a W)
  rw [← r2, ← hq] at C1
  rw [← r1, ← hv] at C2
  have BX := Lib.hid (boxes_bx w x k a b)
  have HS := Lib.hid (boxes_win hs x k a b)
  have G := Lib.hid (boxes_grown w g x k a b)
  clear hs r1 r2 r3 hv hq D
  unfold RefGives five at C2
  unfold five
  go_enter Try.func19, Try.ntmps19
  go_upto_region 1 with fail
  obtain ⟨W, hW⟩ : ∃ W, W = boxes w x k a b := ⟨_, rfl⟩
  rw [← hW] at BX HS G
  simp only [boxes, cells, zeroWin] at hW
  rw [← hW]
  clear hW
  obtain ⟨xf, x0, x1, x2, x3, x4, o0, o1, o2, y0, y1, y2, y3, y4⟩ := xfacts BX.out
  go_wp2_with fail
  refine (C1.out W HS.out).mono ?_
  rintro e w1 ⟨rfl, h1, g1⟩
  have B1 := Lib.hid (BX.out.grown g1 hlt)
  have H1 := Lib.hid h1
  have G1 := Lib.hid (grown_trans G.out g1)
  clear h1 g1 xf x0 x1 x2 x3 x4 o0 o1 o2 y0 y1 y2 y3 y4 BX HS G C1
  obtain ⟨xf, x0, x1, x2, x3, x4, o0, o1, o2, y0, y1, y2, y3, y4⟩ := xfacts B1.out
  go_wp2_with fail
  refine (C2.out w1).mono ?_
  rintro e w2 ⟨rfl, b2⟩
  have B2 := Lib.hid (B1.out.below b2)
  have H2 := Lib.hid (H1.out.below b2 H1.out.lt)
  have G2 := Lib.hid (grown_trans G1.out (grown_below b2 (some g)))
  clear b2 xf x0 x1 x2 x3 x4 o0 o1 o2 y0 y1 y2 y3 y4 B1 H1 G1 C2
  obtain ⟨xf, x0, x1, x2, x3, x4, o0, o1, o2, y0, y1, y2, y3, y4⟩ := xfacts B2.out
  go_wp2
  obtain ⟨wF, hwF⟩ : ∃ wF, wF = set5 w2 (w.heap.size + 1 + 1) v := ⟨_, rfl⟩
  have Y : Blk wF (w.heap.size + 1 + 1) 35 (cells v) := by rw [hwF]; exact set5_blk B2.out.pr v
  have HF : IsWin wF g q := by rw [hwF]; exact set5_far H2.out (by omega) v
  have GF : w.grownBy wF (some g) := by rw [hwF]; exact set5_grown G2.out (by omega) v
  unfold set5 at hwF
  rw [← hwF]
  clear hwF xf x0 x1 x2 x3 x4 o0 o1 o2 y0 y1 y2 y3 y4
  have z0 : wF.cell? ⟨w.heap.size + 1 + 1, 0, none⟩ = some (.int .i64 v.mss) := Y.cell 0
  have z1 : wF.cell? ⟨w.heap.size + 1 + 1, 1, none⟩ = some (.int .i64 v.most) := Y.cell 1
  have z2 : wF.cell? ⟨w.heap.size + 1 + 1, 2, none⟩ = some (.int .i64 v.cwnd) := Y.cell 2
  have z3 : wF.cell? ⟨w.heap.size + 1 + 1, 3, none⟩ = some (.int .i64 v.thresh) := Y.cell 3
  have z4 : wF.cell? ⟨w.heap.size + 1 + 1, 4, none⟩ = some (.int .i64 v.count) := Y.cell 4
  (try simp only [Exit.inBlock, Exit.then])
  refine bodyPost_ret (v := .tuple #[.agg #[.int .i64 v.mss, .int .i64 v.most, .int .i64 v.cwnd, .int .i64 v.thresh, .int .i64 v.count], .bool true]) (by simp [results, Try.results19, go_sem, z0, z1, z2, z3, z4]; done) rfl ?_
  exact ⟨rfl, HF, GF⟩
set_option maxHeartbeats 4000000 in
set_option maxRecDepth 100000 in
theorem does_collapse (g : Nat) (s x : Win) (k a b : Int) (w : World) (hs : IsWin w g s) (k0 : 0 ≤ k) (k1 : k ≤ 255) (hk : k % 6 = 4) :
    Calls Try.prog 19 #[.pointer (some ⟨g, 0, none⟩), .agg #[.int .i64 x.mss, .int .i64 x.most, .int .i64 x.cwnd, .int .i64 x.thresh, .int .i64 x.count], .agg #[.int .u8 k, .int .i64 a, .int .i64 b]] w (Did g w s x k a b) := by
  have hlt := hs.lt
  have r1 : ract x k a b = set_ x x.mss := by rw [ract, if_neg (by omega), if_neg (by omega), if_pos hk]
  have r2 : act s k a b = { s with cwnd := s.mss } := by rw [act, if_neg (by omega), if_neg (by omega), if_pos hk]
  have r3 : said s x k a = true := by rw [said, if_neg (by omega)]
  obtain ⟨v, hv⟩ : ∃ v, v = ract x k a b := ⟨_, rfl⟩
  obtain ⟨q, hq⟩ : ∃ q, q = act s k a b := ⟨_, rfl⟩
  have D := Lib.hid (show Did g w s x k a b = fun e w' => e = .returned (.tuple #[five v, .bool true]) ∧ IsWin w' g q ∧ w.grownBy w' (some g) by unfold Did; rw [← hv, ← hq, r3])
  rw [D.out]
  have C1 := Lib.hid (fun (W : World) (h : IsWin W g s) => collapse_calls g s W h)
  have C2 := Lib.hid (fun (W : World) => ref_set x x.mss W)
  rw [← r2, ← hq] at C1
  rw [← r1, ← hv] at C2
  have BX := Lib.hid (boxes_bx w x k a b)
  have HS := Lib.hid (boxes_win hs x k a b)
  have G := Lib.hid (boxes_grown w g x k a b)
  clear hs r1 r2 r3 hv hq D
  unfold RefGives five at C2
  unfold five
  go_enter Try.func19, Try.ntmps19
  go_upto_region 1 with fail
  obtain ⟨W, hW⟩ : ∃ W, W = boxes w x k a b := ⟨_, rfl⟩
  rw [← hW] at BX HS G
  simp only [boxes, cells, zeroWin] at hW
  rw [← hW]
  clear hW
  obtain ⟨xf, x0, x1, x2, x3, x4, o0, o1, o2, y0, y1, y2, y3, y4⟩ := xfacts BX.out
  go_wp2_with fail
  refine (C1.out W HS.out).mono ?_
  rintro e w1 ⟨rfl, h1, g1⟩
  have B1 := Lib.hid (BX.out.grown g1 hlt)
  have H1 := Lib.hid h1
  have G1 := Lib.hid (grown_trans G.out g1)
  clear h1 g1 xf x0 x1 x2 x3 x4 o0 o1 o2 y0 y1 y2 y3 y4 BX HS G C1
  obtain ⟨xf, x0, x1, x2, x3, x4, o0, o1, o2, y0, y1, y2, y3, y4⟩ := xfacts B1.out
  go_wp2_with fail
  refine (C2.out w1).mono ?_
  rintro e w2 ⟨rfl, b2⟩
  have B2 := Lib.hid (B1.out.below b2)
  have H2 := Lib.hid (H1.out.below b2 H1.out.lt)
  have G2 := Lib.hid (grown_trans G1.out (grown_below b2 (some g)))
  clear b2 xf x0 x1 x2 x3 x4 o0 o1 o2 y0 y1 y2 y3 y4 B1 H1 G1 C2
  obtain ⟨xf, x0, x1, x2, x3, x4, o0, o1, o2, y0, y1, y2, y3, y4⟩ := xfacts B2.out
  go_wp2
  obtain ⟨wF, hwF⟩ : ∃ wF, wF = set5 w2 (w.heap.size + 1 + 1) v := ⟨_, rfl⟩
  have Y : Blk wF (w.heap.size + 1 + 1) 35 (cells v) := by rw [hwF]; exact set5_blk B2.out.pr v
  have HF : IsWin wF g q := by rw [hwF]; exact set5_far H2.out (by omega) v
  have GF : w.grownBy wF (some g) := by rw [hwF]; exact set5_grown G2.out (by omega) v
  unfold set5 at hwF
  rw [← hwF]
  clear hwF xf x0 x1 x2 x3 x4 o0 o1 o2 y0 y1 y2 y3 y4
  have z0 : wF.cell? ⟨w.heap.size + 1 + 1, 0, none⟩ = some (.int .i64 v.mss) := Y.cell 0
  have z1 : wF.cell? ⟨w.heap.size + 1 + 1, 1, none⟩ = some (.int .i64 v.most) := Y.cell 1
  have z2 : wF.cell? ⟨w.heap.size + 1 + 1, 2, none⟩ = some (.int .i64 v.cwnd) := Y.cell 2
  have z3 : wF.cell? ⟨w.heap.size + 1 + 1, 3, none⟩ = some (.int .i64 v.thresh) := Y.cell 3
  have z4 : wF.cell? ⟨w.heap.size + 1 + 1, 4, none⟩ = some (.int .i64 v.count) := Y.cell 4
  (try simp only [Exit.inBlock, Exit.then])
  refine bodyPost_ret (v := .tuple #[.agg #[.int .i64 v.mss, .int .i64 v.most, .int .i64 v.cwnd, .int .i64 v.thresh, .int .i64 v.count], .bool true]) (by simp [results, Try.results19, go_sem, z0, z1, z2, z3, z4]; done) rfl ?_
  exact ⟨rfl, HF, GF⟩
set_option maxHeartbeats 4000000 in
set_option maxRecDepth 100000 in
theorem does_lift (g : Nat) (s x : Win) (k a b : Int) (w : World) (hs : IsWin w g s) (k0 : 0 ≤ k) (k1 : k ≤ 255) (hk : k % 6 = 5) :
    Calls Try.prog 19 #[.pointer (some ⟨g, 0, none⟩), .agg #[.int .i64 x.mss, .int .i64 x.most, .int .i64 x.cwnd, .int .i64 x.thresh, .int .i64 x.count], .agg #[.int .u8 k, .int .i64 a, .int .i64 b]] w (Did g w s x k a b) := by
  have hlt := hs.lt
  have r1 : ract x k a b = lift x a b := by rw [ract, if_neg (by omega), if_neg (by omega), if_neg (by omega), if_pos hk]
  have r2 : act s k a b = lift s a b := by rw [act, if_neg (by omega), if_neg (by omega), if_neg (by omega), if_pos hk]
  have r3 : said s x k a = true := by rw [said, if_neg (by omega)]
  obtain ⟨v, hv⟩ : ∃ v, v = ract x k a b := ⟨_, rfl⟩
  obtain ⟨q, hq⟩ : ∃ q, q = act s k a b := ⟨_, rfl⟩
  have D := Lib.hid (show Did g w s x k a b = fun e w' => e = .returned (.tuple #[five v, .bool true]) ∧ IsWin w' g q ∧ w.grownBy w' (some g) by unfold Did; rw [← hv, ← hq, r3])
  rw [D.out]
  have C1 := Lib.hid (fun (W : World) (h : IsWin W g s) => lift_calls g s a b W h)
  have C2 := Lib.hid (fun (W : World) => ref_lift x a b W)
  rw [← r2, ← hq] at C1
  rw [← r1, ← hv] at C2
  have BX := Lib.hid (boxes_bx w x k a b)
  have HS := Lib.hid (boxes_win hs x k a b)
  have G := Lib.hid (boxes_grown w g x k a b)
  clear hs r1 r2 r3 hv hq D
  unfold RefGives five at C2
  unfold five
  go_enter Try.func19, Try.ntmps19
  go_upto_region 1 with fail
  obtain ⟨W, hW⟩ : ∃ W, W = boxes w x k a b := ⟨_, rfl⟩
  rw [← hW] at BX HS G
  simp only [boxes, cells, zeroWin] at hW
  rw [← hW]
  clear hW
  obtain ⟨xf, x0, x1, x2, x3, x4, o0, o1, o2, y0, y1, y2, y3, y4⟩ := xfacts BX.out
  go_wp2_with fail
  refine (C1.out W HS.out).mono ?_
  rintro e w1 ⟨rfl, h1, g1⟩
  have B1 := Lib.hid (BX.out.grown g1 hlt)
  have H1 := Lib.hid h1
  have G1 := Lib.hid (grown_trans G.out g1)
  clear h1 g1 xf x0 x1 x2 x3 x4 o0 o1 o2 y0 y1 y2 y3 y4 BX HS G C1
  obtain ⟨xf, x0, x1, x2, x3, x4, o0, o1, o2, y0, y1, y2, y3, y4⟩ := xfacts B1.out
  go_wp2_with fail
  refine (C2.out w1).mono ?_
  rintro e w2 ⟨rfl, b2⟩
  have B2 := Lib.hid (B1.out.below b2)
  have H2 := Lib.hid (H1.out.below b2 H1.out.lt)
  have G2 := Lib.hid (grown_trans G1.out (grown_below b2 (some g)))
  clear b2 xf x0 x1 x2 x3 x4 o0 o1 o2 y0 y1 y2 y3 y4 B1 H1 G1 C2
  obtain ⟨xf, x0, x1, x2, x3, x4, o0, o1, o2, y0, y1, y2, y3, y4⟩ := xfacts B2.out
  go_wp2
  obtain ⟨wF, hwF⟩ : ∃ wF, wF = set5 w2 (w.heap.size + 1 + 1) v := ⟨_, rfl⟩
  have Y : Blk wF (w.heap.size + 1 + 1) 35 (cells v) := by rw [hwF]; exact set5_blk B2.out.pr v
  have HF : IsWin wF g q := by rw [hwF]; exact set5_far H2.out (by omega) v
  have GF : w.grownBy wF (some g) := by rw [hwF]; exact set5_grown G2.out (by omega) v
  unfold set5 at hwF
  rw [← hwF]
  clear hwF xf x0 x1 x2 x3 x4 o0 o1 o2 y0 y1 y2 y3 y4
  have z0 : wF.cell? ⟨w.heap.size + 1 + 1, 0, none⟩ = some (.int .i64 v.mss) := Y.cell 0
  have z1 : wF.cell? ⟨w.heap.size + 1 + 1, 1, none⟩ = some (.int .i64 v.most) := Y.cell 1
  have z2 : wF.cell? ⟨w.heap.size + 1 + 1, 2, none⟩ = some (.int .i64 v.cwnd) := Y.cell 2
  have z3 : wF.cell? ⟨w.heap.size + 1 + 1, 3, none⟩ = some (.int .i64 v.thresh) := Y.cell 3
  have z4 : wF.cell? ⟨w.heap.size + 1 + 1, 4, none⟩ = some (.int .i64 v.count) := Y.cell 4
  (try simp only [Exit.inBlock, Exit.then])
  refine bodyPost_ret (v := .tuple #[.agg #[.int .i64 v.mss, .int .i64 v.most, .int .i64 v.cwnd, .int .i64 v.thresh, .int .i64 v.count], .bool true]) (by simp [results, Try.results19, go_sem, z0, z1, z2, z3, z4]; done) rfl ?_
  exact ⟨rfl, HF, GF⟩
set_option maxHeartbeats 4000000 in
set_option maxRecDepth 100000 in
theorem does_grow (g : Nat) (s x : Win) (k a b : Int) (w : World) (hs : IsWin w g s) (ho : Ok s) (hx : XB x) (k0 : 0 ≤ k) (k1 : k ≤ 255) (hk : k % 6 ≠ 2 ∧ k % 6 ≠ 3 ∧ k % 6 ≠ 4 ∧ k % 6 ≠ 5) :
    Calls Try.prog 19 #[.pointer (some ⟨g, 0, none⟩), .agg #[.int .i64 x.mss, .int .i64 x.most, .int .i64 x.cwnd, .int .i64 x.thresh, .int .i64 x.count], .agg #[.int .u8 k, .int .i64 a, .int .i64 b]] w (Did g w s x k a b) := by
  have hlt := hs.lt
  have r1 : ract x k a b = grow x a := by rw [ract, if_neg (by omega), if_neg (by omega), if_neg (by omega), if_neg (by omega)]
  have r2 : act s k a b = grow s a := by rw [act, if_neg (by omega), if_neg (by omega), if_neg (by omega), if_neg (by omega)]
  have r3 : said s x k a = true := by rw [said, if_neg (by omega)]
  obtain ⟨v, hv⟩ : ∃ v, v = ract x k a b := ⟨_, rfl⟩
  obtain ⟨q, hq⟩ : ∃ q, q = act s k a b := ⟨_, rfl⟩
  have D := Lib.hid (show Did g w s x k a b = fun e w' => e = .returned (.tuple #[five v, .bool true]) ∧ IsWin w' g q ∧ w.grownBy w' (some g) by unfold Did; rw [← hv, ← hq, r3])
  rw [D.out]
  have C1 := Lib.hid (fun (W : World) (h : IsWin W g s) => grow_calls g s a W h ho)
  have C2 := Lib.hid (fun (W : World) => ref_grow x a W hx)
  rw [← r2, ← hq] at C1
  rw [← r1, ← hv] at C2
  have BX := Lib.hid (boxes_bx w x k a b)
  have HS := Lib.hid (boxes_win hs x k a b)
  have G := Lib.hid (boxes_grown w g x k a b)
  clear hs ho hx r1 r2 r3 hv hq D
  unfold RefGives five at C2
  unfold five
  go_enter Try.func19, Try.ntmps19
  go_upto_region 1 with fail
  obtain ⟨W, hW⟩ : ∃ W, W = boxes w x k a b := ⟨_, rfl⟩
  rw [← hW] at BX HS G
  simp only [boxes, cells, zeroWin] at hW
  rw [← hW]
  clear hW
  obtain ⟨xf, x0, x1, x2, x3, x4, o0, o1, o2, y0, y1, y2, y3, y4⟩ := xfacts BX.out
  go_wp2_with fail
  refine (C1.out W HS.out).mono ?_
  rintro e w1 ⟨rfl, h1, g1⟩
  have B1 := Lib.hid (BX.out.grown g1 hlt)
  have H1 := Lib.hid h1
  have G1 := Lib.hid (grown_trans G.out g1)
  clear h1 g1 xf x0 x1 x2 x3 x4 o0 o1 o2 y0 y1 y2 y3 y4 BX HS G C1
  obtain ⟨xf, x0, x1, x2, x3, x4, o0, o1, o2, y0, y1, y2, y3, y4⟩ := xfacts B1.out
  go_wp2_with fail
  refine (C2.out w1).mono ?_
  rintro e w2 ⟨rfl, b2⟩
  have B2 := Lib.hid (B1.out.below b2)
  have H2 := Lib.hid (H1.out.below b2 H1.out.lt)
  have G2 := Lib.hid (grown_trans G1.out (grown_below b2 (some g)))
  clear b2 xf x0 x1 x2 x3 x4 o0 o1 o2 y0 y1 y2 y3 y4 B1 H1 G1 C2
  obtain ⟨xf, x0, x1, x2, x3, x4, o0, o1, o2, y0, y1, y2, y3, y4⟩ := xfacts B2.out
  go_wp2
  obtain ⟨wF, hwF⟩ : ∃ wF, wF = set5 w2 (w.heap.size + 1 + 1) v := ⟨_, rfl⟩
  have Y : Blk wF (w.heap.size + 1 + 1) 35 (cells v) := by rw [hwF]; exact set5_blk B2.out.pr v
  have HF : IsWin wF g q := by rw [hwF]; exact set5_far H2.out (by omega) v
  have GF : w.grownBy wF (some g) := by rw [hwF]; exact set5_grown G2.out (by omega) v
  unfold set5 at hwF
  rw [← hwF]
  clear hwF xf x0 x1 x2 x3 x4 o0 o1 o2 y0 y1 y2 y3 y4
  have z0 : wF.cell? ⟨w.heap.size + 1 + 1, 0, none⟩ = some (.int .i64 v.mss) := Y.cell 0
  have z1 : wF.cell? ⟨w.heap.size + 1 + 1, 1, none⟩ = some (.int .i64 v.most) := Y.cell 1
  have z2 : wF.cell? ⟨w.heap.size + 1 + 1, 2, none⟩ = some (.int .i64 v.cwnd) := Y.cell 2
  have z3 : wF.cell? ⟨w.heap.size + 1 + 1, 3, none⟩ = some (.int .i64 v.thresh) := Y.cell 3
  have z4 : wF.cell? ⟨w.heap.size + 1 + 1, 4, none⟩ = some (.int .i64 v.count) := Y.cell 4
  (try simp only [Exit.inBlock, Exit.then])
  refine bodyPost_ret (v := .tuple #[.agg #[.int .i64 v.mss, .int .i64 v.most, .int .i64 v.cwnd, .int .i64 v.thresh, .int .i64 v.count], .bool true]) (by simp [results, Try.results19, go_sem, z0, z1, z2, z3, z4]; done) rfl ?_
  exact ⟨rfl, HF, GF⟩
set_option maxHeartbeats 4000000 in
set_option maxRecDepth 100000 in
theorem does_cut (g : Nat) (s x : Win) (k a b : Int) (w : World) (hs : IsWin w g s) (ho : Ok s) (hx : XB x) (k0 : 0 ≤ k) (k1 : k ≤ 255) (hk : k % 6 = 2) :
    Calls Try.prog 19 #[.pointer (some ⟨g, 0, none⟩), .agg #[.int .i64 x.mss, .int .i64 x.most, .int .i64 x.cwnd, .int .i64 x.thresh, .int .i64 x.count], .agg #[.int .u8 k, .int .i64 a, .int .i64 b]] w (Did g w s x k a b) := by
  have hlt := hs.lt
  have r1 : ract x k a b = cut x a := by rw [ract, if_pos hk]
  have r2 : act s k a b = cut s a := by rw [act, if_pos hk]
  have r3 : said s x k a = ((cut s a).thresh == (cut x a).thresh) := by rw [said, if_pos hk]
  obtain ⟨v, hv⟩ : ∃ v, v = cut x a := ⟨_, rfl⟩
  obtain ⟨q, hq⟩ : ∃ q, q = cut s a := ⟨_, rfl⟩
  have D := Lib.hid (show Did g w s x k a b = fun e w' => e = .returned (.tuple #[five v, .bool (q.thresh == v.thresh)]) ∧ IsWin w' g q ∧ w.grownBy w' (some g) by unfold Did; rw [r1, r2, r3, ← hv, ← hq])
  rw [D.out]
  have C1 := Lib.hid (fun (W : World) (h : IsWin W g s) => cut_calls g s a W h ho)
  have C2 := Lib.hid (fun (W : World) => ref_cut x a W hx)
  rw [← hq] at C1
  rw [← hv] at C2
  have BX := Lib.hid (boxes_bx w x k a b)
  have HS := Lib.hid (boxes_win hs x k a b)
  have G := Lib.hid (boxes_grown w g x k a b)
  have Z : w.heap.size + 3 ≤ (boxes w x k a b).heap.size := by simp [boxes]
  clear hs ho hx r1 r2 r3 hv hq D
  unfold RefGives five at C2
  unfold five
  go_enter Try.func19, Try.ntmps19
  go_upto_region 1 with fail
  obtain ⟨W, hW⟩ : ∃ W, W = boxes w x k a b := ⟨_, rfl⟩
  rw [← hW] at BX HS G Z
  simp only [boxes, cells, zeroWin] at hW
  rw [← hW]
  clear hW
  obtain ⟨xf, x0, x1, x2, x3, x4, o0, o1, o2, y0, y1, y2, y3, y4⟩ := xfacts BX.out
  go_wp2_with fail
  refine (C2.out W).mono ?_
  rintro e w1 ⟨rfl, b1⟩
  have B1 := Lib.hid (BX.out.below b1)
  have H1 := Lib.hid (HS.out.below b1 HS.out.lt)
  have G1 := Lib.hid (grown_trans G.out (grown_below b1 (some g)))
  have hz : w.heap.size + 3 ≤ w1.heap.size := by have := b1.size; omega
  clear b1 xf x0 x1 x2 x3 x4 o0 o1 o2 y0 y1 y2 y3 y4 BX HS G C2 Z
  go_upto_region 4 with fail
  obtain ⟨W2, hW2⟩ : ∃ W2, W2 = w1.alloc (.cells (cells v) 35) := ⟨_, rfl⟩
  have B2 := Lib.hid (B1.out.below (hW2 ▸ (Below.refl _ w1).alloc (Nat.le_refl _) _))
  have H2 := Lib.hid (show IsWin W2 g s by rw [hW2]; exact Blk.alloc H1.out _)
  have G2 := Lib.hid (show w.grownBy W2 (some g) by rw [hW2]; exact grown_alloc G1.out _)
  have C3 := Lib.hid (show Blk W2 w1.heap.size 35 (cells v) by rw [hW2]; exact Blk.new w1 _ _)
  simp only [cells] at hW2
  rw [← hW2]
  clear hW2 B1 H1 G1
  generalize w1.heap.size = p at *
  have n1 : p ≠ w.heap.size + 1 + 1 := by omega
  have n2 : w.heap.size + 1 + 1 ≠ p := by omega
  obtain ⟨xf, x0, x1, x2, x3, x4, o0, o1, o2, y0, y1, y2, y3, y4⟩ := xfacts B2.out
  have u0 : W2.cell? ⟨p, 0, none⟩ = some (.int .i64 v.mss) := C3.out.cell 0
  have u1 : W2.cell? ⟨p, 1, none⟩ = some (.int .i64 v.most) := C3.out.cell 1
  have u2 : W2.cell? ⟨p, 2, none⟩ = some (.int .i64 v.cwnd) := C3.out.cell 2
  have u3 : W2.cell? ⟨p, 3, none⟩ = some (.int .i64 v.thresh) := C3.out.cell 3
  have u4 : W2.cell? ⟨p, 4, none⟩ = some (.int .i64 v.count) := C3.out.cell 4
  clear x0 x1 x2 x3 x4
  go_region_held3 (fun w' => w'.cell? ⟨p, 0, none⟩ = some (.int .i64 v.mss) ∧ w'.cell? ⟨p, 1, none⟩ = some (.int .i64 v.most) ∧ w'.cell? ⟨p, 2, none⟩ = some (.int .i64 v.cwnd) ∧ w'.cell? ⟨p, 3, none⟩ = some (.int .i64 v.thresh) ∧ w'.cell? ⟨p, 4, none⟩ = some (.int .i64 v.count) ∧ w'.cell? ⟨w.heap.size + 1, 1, none⟩ = some (.int .i64 a)) (go_keep) (first
    | (go_at_call 16
       refine (C1.out _ (Blk.drew H2.out)).mono ?_
       rintro e w5 ⟨rfl, h5, g5⟩
       have B5 := (show Bx w W2.drew x k a b from ⟨B2.out.px, B2.out.po, B2.out.pr⟩).grown g5 hlt
       have C5 := (Blk.drew C3.out).grown g5 (by simp; omega)
       have v0 : w5.cell? ⟨p, 0, none⟩ = some (.int .i64 v.mss) := C5.cell 0
       have v1 : w5.cell? ⟨p, 1, none⟩ = some (.int .i64 v.most) := C5.cell 1
       have v2 : w5.cell? ⟨p, 2, none⟩ = some (.int .i64 v.cwnd) := C5.cell 2
       have v3 : w5.cell? ⟨p, 3, none⟩ = some (.int .i64 v.thresh) := C5.cell 3
       have v4 : w5.cell? ⟨p, 4, none⟩ = some (.int .i64 v.count) := C5.cell 4
       obtain ⟨tf, t0, t1, t2, t3, t4, j0, j1, j2, q0, q1, q2, q3, q4⟩ := xfacts B5
       have PR := Lib.hid B5.pr
       clear t0 t1 t2 t3 t4 B5 C5))
  go_wp2
  refine bodyPost_ret (v := .tuple #[.agg #[.int .i64 v.mss, .int .i64 v.most, .int .i64 v.cwnd, .int .i64 v.thresh, .int .i64 v.count], .bool (q.thresh == v.thresh)]) (by simp [results, Try.results19, go_sem, q0, q1, q2, q3, q4]) rfl ⟨rfl, ?_, ?_⟩
  · exact set5_far h5 (b := w.heap.size + 1 + 1) (by omega) v
  · exact set5_grown (grown_trans (grown_drew G2.out) g5) (b := w.heap.size + 1 + 1) (by omega) v
theorem does_calls (g : Nat) (s x : Win) (k a b : Int) (w : World) (hs : IsWin w g s) (ho : Ok s) (hx : XB x) (k0 : 0 ≤ k) (k1 : k ≤ 255) :
    Calls Try.prog 19 #[.pointer (some ⟨g, 0, none⟩), .agg #[.int .i64 x.mss, .int .i64 x.most, .int .i64 x.cwnd, .int .i64 x.thresh, .int .i64 x.count], .agg #[.int .u8 k, .int .i64 a, .int .i64 b]] w (Did g w s x k a b) := by
  by_cases h2 : k % 6 = 2
  · exact does_cut g s x k a b w hs ho hx k0 k1 h2
  by_cases h3 : k % 6 = 3
  · exact does_set g s x k a b w hs k0 k1 h3
  by_cases h4 : k % 6 = 4
  · exact does_collapse g s x k a b w hs k0 k1 h4
  by_cases h5 : k % 6 = 5
  · exact does_lift g s x k a b w hs k0 k1 h5
  · exact does_grow g s x k a b w hs ho hx k0 k1 ⟨h2, h3, h4, h5⟩
end Go.Proofs.Ythafjgaleonbgaa.Window
