/- Told, as the document says (chapter 16). -/
import Derived.Test.YthafjgaleonbgaaProbeAsk
import Derived.Laws.EntriesVeiled
import Derived.Test.YthafjgaleonbgaaProbeIndex
namespace Go.Proofs.Ythafjgaleonbgaa.Probe
open Go.BigFrame Go.RowKit Go.Proofs.Ythafjgaleonbgaa.Aid
attribute [local go_sem] index_0 index_1 index_2 index_3 index_4
def told (s : Pr) (ack : Int) (isDup : Bool) (f t : Int) (bare : Bool) : Pr × Int :=
  if s.on = false then (s, 0)
  else if twice s isDup f t = true then (⟨false, false, 0⟩, 1)
  else if ack < s.end_ then (s, 0)
  else if s.again = false then (⟨false, false, 0⟩, 1)
  else if s.end_ < ack then (⟨false, false, 0⟩, 2)
  else if bare = true then (⟨false, false, 0⟩, 1)
  else (s, 0)
def boxes (w : World) (g : Nat) (ack : Int) (isDup : Bool) (f t : Int) (bare : Bool) : World :=
  ((((w.alloc (.cells #[.pointer (some ⟨g, 0, none⟩)] 74)).alloc (.cells #[.int .i64 ack] 3)).alloc (.cells #[.bool isDup] 4)).alloc (.cells #[.int .i64 f, .int .i64 t] 70)).alloc (.cells #[.bool bare] 4)
theorem boxes_asks {w : World} {g : Nat} {s : Pr} (h : IsPr w g s) (ack : Int) (isDup : Bool) (f t : Int) (bare : Bool) :
    Asks (boxes w g ack isDup f t bare) g w.heap.size (w.heap.size + 1) (w.heap.size + 1 + 1) (w.heap.size + 1 + 1 + 1) (w.heap.size + 1 + 1 + 1 + 1) s ack isDup f t bare := by
  unfold boxes
  refine ⟨((((Blk.alloc h _).alloc _).alloc _).alloc _).alloc _, ((((Blk.new w 74 _).alloc _).alloc _).alloc _).alloc _, ?_, ?_, ?_, ?_⟩
  · have := (((Blk.new (w.alloc (.cells #[.pointer (some ⟨g, 0, none⟩)] 74)) 3 #[.int .i64 ack]).alloc (.cells #[.bool isDup] 4)).alloc (.cells #[.int .i64 f, .int .i64 t] 70)).alloc (.cells #[.bool bare] 4)
    simpa using this
  · have := ((Blk.new ((w.alloc (.cells #[.pointer (some ⟨g, 0, none⟩)] 74)).alloc (.cells #[.int .i64 ack] 3)) 4 #[.bool isDup]).alloc (.cells #[.int .i64 f, .int .i64 t] 70)).alloc (.cells #[.bool bare] 4)
    simpa using this
  · have := (Blk.new (((w.alloc (.cells #[.pointer (some ⟨g, 0, none⟩)] 74)).alloc (.cells #[.int .i64 ack] 3)).alloc (.cells #[.bool isDup] 4)) 70 #[.int .i64 f, .int .i64 t]).alloc (.cells #[.bool bare] 4)
    simpa using this
  · have := Blk.new ((((w.alloc (.cells #[.pointer (some ⟨g, 0, none⟩)] 74)).alloc (.cells #[.int .i64 ack] 3)).alloc (.cells #[.bool isDup] 4)).alloc (.cells #[.int .i64 f, .int .i64 t] 70)) 4 #[.bool bare]
    simpa using this
theorem boxes_grown (w : World) (g : Nat) (ack : Int) (isDup : Bool) (f t : Int) (bare : Bool) : w.grownBy (boxes w g ack isDup f t bare) (some g) :=
  grown_alloc (grown_alloc (grown_alloc (grown_alloc (grown_alloc (grown_refl _ _) _) _) _) _) _
theorem boxes_size (w : World) (g : Nat) (ack : Int) (isDup : Bool) (f t : Int) (bare : Bool) : (boxes w g ack isDup f t bare).heap.size = w.heap.size + 5 := by simp [boxes]
def toldB (s : Pr) (v1 v2 v3 v4 v5 : Bool) : Pr × Int :=
  if v1 = true then (⟨false, false, 0⟩, 1) else if v2 = true then (s, 0) else if v3 = true then (⟨false, false, 0⟩, 1) else if v4 = true then (⟨false, false, 0⟩, 2) else if v5 = true then (⟨false, false, 0⟩, 1) else (s, 0)
theorem told_bools (s : Pr) (ack : Int) (isDup : Bool) (f t : Int) (bare : Bool) (ho : s.on = true) :
    told s ack isDup f t bare = toldB s (twice s isDup f t) (decide (ack < s.end_)) (!s.again) (decide (s.end_ < ack)) bare := by
  unfold told toldB
  rw [if_neg (by rw [ho]; decide)]
  simp only [decide_eq_true_eq, Bool.not_eq_true']
set_option maxRecDepth 100000 in
set_option maxHeartbeats 4000000 in
theorem told_calls (g : Nat) (s : Pr) (ack : Int) (isDup : Bool) (f t : Int) (bare : Bool) (w : World) (h : IsPr w g s) (hf0 : -9223372036854775808 ≤ f ∧ f ≤ 9223372036854775807) (ht0 : -9223372036854775808 ≤ t ∧ t ≤ 9223372036854775807) :
    Calls Try.prog 45 #[.pointer (some ⟨g, 0, none⟩), .int .i64 ack, .bool isDup, span f t, .bool bare] w (Post g w (.int .i64 (told s ack isDup f t bare).2) (told s ack isDup f t bare).1) := by
  have A := Lib.hid (boxes_asks h ack isDup f t bare)
  have G := Lib.hid (boxes_grown w g ack isDup f t bare)
  have Z := Lib.hid (boxes_size w g ack isDup f t bare)
  have hlt := h.lt
  have FT := Lib.hid (And.intro hf0 ht0)
  clear h hf0 ht0
  unfold span
  obtain ⟨r, hr⟩ : ∃ r, r = told s ack isDup f t bare := ⟨_, rfl⟩
  rw [← hr]
  have R := Lib.hid hr
  clear hr
  go_enter Try.func45, Try.ntmps45
  go_upto_region 1 with fail
  obtain ⟨W, hW⟩ : ∃ W, W = boxes w g ack isDup f t bare := ⟨_, rfl⟩
  rw [← hW] at A G Z
  unfold boxes at hW
  rw [← hW]
  clear hW
  have O := Lib.hid (on_calls g s W A.out.pr)
  have d5 : W.cell? ⟨w.heap.size, 0, none⟩ = some (.pointer (some ⟨g, 0, none⟩)) := A.out.p5.cell 0
  by_cases ho : s.on = false
  · rw [ho] at O
    have hr : r = (s, 0) := by rw [R.out, told, if_pos ho]
    clear ho R
    subst hr
    go_wp2_with fail
    refine O.out.mono ?_
    rintro e w1 ⟨rfl, rfl⟩
    go_wp2
    go_ret
    exact ⟨rfl, A.out.pr, G.out⟩
  · have ho' : s.on = true := by simpa using ho
    rw [ho'] at O
    clear ho
    go_wp2_with fail
    refine O.out.mono ?_
    rintro e w1 ⟨rfl, rfl⟩
    go_wp2_with fail
    obtain ⟨v1, h1⟩ : ∃ v, twice s isDup f t = v := ⟨_, rfl⟩
    obtain ⟨v2, h2⟩ : ∃ v, decide (ack < s.end_) = v := ⟨_, rfl⟩
    obtain ⟨v3, h3⟩ : ∃ v, (!s.again) = v := ⟨_, rfl⟩
    obtain ⟨v4, h4⟩ : ∃ v, decide (s.end_ < ack) = v := ⟨_, rfl⟩
    have R2 := R.out.trans (told_bools s ack isDup f t bare ho')
    rw [h1, h2, h3, h4] at R2
    have R3 := Lib.hid R2
    have C1 := Lib.hid (fun (X : World) (h : Asks X g w.heap.size (w.heap.size + 1) (w.heap.size + 1 + 1) (w.heap.size + 1 + 1 + 1) (w.heap.size + 1 + 1 + 1 + 1) s ack isDup f t bare) => h1 ▸ ask1 X FT.out.1 FT.out.2 h)
    have C2 := Lib.hid (fun (X : World) (h : Asks X g w.heap.size (w.heap.size + 1) (w.heap.size + 1 + 1) (w.heap.size + 1 + 1 + 1) (w.heap.size + 1 + 1 + 1 + 1) s ack isDup f t bare) => h2 ▸ ask2 X h)
    have C3 := Lib.hid (fun (X : World) (h : Asks X g w.heap.size (w.heap.size + 1) (w.heap.size + 1 + 1) (w.heap.size + 1 + 1 + 1) (w.heap.size + 1 + 1 + 1 + 1) s ack isDup f t bare) => h3 ▸ ask3 X h)
    have C4 := Lib.hid (fun (X : World) (h : Asks X g w.heap.size (w.heap.size + 1) (w.heap.size + 1 + 1) (w.heap.size + 1 + 1 + 1) (w.heap.size + 1 + 1 + 1 + 1) s ack isDup f t bare) => h4 ▸ ask4 X h)
    have C5 := Lib.hid (fun (X : World) (h : Asks X g w.heap.size (w.heap.size + 1) (w.heap.size + 1 + 1) (w.heap.size + 1 + 1 + 1) (w.heap.size + 1 + 1 + 1 + 1) s ack isDup f t bare) => ask5 X h)
    clear h1 h2 h3 h4 R2 R FT d5 O
    obtain ⟨W1, hW1⟩ : ∃ W1, W1 = W.alloc (.cells #[.func (.func 61) #[] #[.pointer (some ⟨w.heap.size, 0, none⟩), .pointer (some ⟨w.heap.size + 1 + 1, 0, none⟩), .pointer (some ⟨w.heap.size + 1 + 1 + 1, 0, none⟩)], .int .i64 1, .func (.func 63) #[] #[.pointer (some ⟨w.heap.size + 1, 0, none⟩), .pointer (some ⟨w.heap.size, 0, none⟩)], .int .i64 0, .func (.func 64) #[] #[.pointer (some ⟨w.heap.size, 0, none⟩)], .int .i64 1, .func (.func 65) #[] #[.pointer (some ⟨w.heap.size + 1, 0, none⟩), .pointer (some ⟨w.heap.size, 0, none⟩)], .int .i64 2, .func (.func 66) #[] #[.pointer (some ⟨w.heap.size + 1 + 1 + 1 + 1, 0, none⟩)], .int .i64 1] 88) := ⟨_, rfl⟩
    have A1 := Lib.hid (A.out.below (hW1 ▸ (Below.refl _ W).alloc (Nat.le_refl _) _))
    have G1 := Lib.hid (grown_trans G.out (grown_below (hW1 ▸ (Below.refl _ W).alloc (Nat.le_refl _) _) (some g)))
    have Z1 : w.heap.size ≤ W1.heap.size := G1.out.size
    rw [← hW1]
    clear hW1 A G Z
    obtain ⟨v5, h5⟩ : ∃ v, bare = v := ⟨_, rfl⟩
    rw [h5] at R3
    replace C5 := Lib.hid (fun (X : World) (h : Asks X g w.heap.size (w.heap.size + 1) (w.heap.size + 1 + 1) (w.heap.size + 1 + 1 + 1) (w.heap.size + 1 + 1 + 1 + 1) s ack isDup f t bare) => h5 ▸ C5.out X h)
    refine wp_loop_rounds 6 ?_
    -- ask 1
    rw [rounds_succ]
    go_wp2_with fail
    refine (C1.out _ (A1.out.below ((Below.refl _ W1).alloc (Nat.le_refl _) (.cells #[.func (.func 61) #[] #[.pointer (some ⟨w.heap.size, 0, none⟩), .pointer (some ⟨w.heap.size + 1 + 1, 0, none⟩), .pointer (some ⟨w.heap.size + 1 + 1 + 1, 0, none⟩)], .int .i64 1] 87)))).mono ?_
    rintro e x1 ⟨rfl, bx⟩
    have X1 := Lib.hid ((Blk.new W1 87 #[.func (.func 61) #[] #[.pointer (some ⟨w.heap.size, 0, none⟩), .pointer (some ⟨w.heap.size + 1 + 1, 0, none⟩), .pointer (some ⟨w.heap.size + 1 + 1 + 1, 0, none⟩)], .int .i64 1]).below bx (by simp))
    have D1 := Lib.hid (below_then ((Below.refl _ W1).alloc (Nat.le_refl _) (.cells #[.func (.func 61) #[] #[.pointer (some ⟨w.heap.size, 0, none⟩), .pointer (some ⟨w.heap.size + 1 + 1, 0, none⟩), .pointer (some ⟨w.heap.size + 1 + 1 + 1, 0, none⟩)], .int .i64 1] 87)) (by simp) bx)
    have p0 : x1.cell? ⟨W1.heap.size, 0, none⟩ = some (.func (.func 61) #[] #[.pointer (some ⟨w.heap.size, 0, none⟩), .pointer (some ⟨w.heap.size + 1 + 1, 0, none⟩), .pointer (some ⟨w.heap.size + 1 + 1 + 1, 0, none⟩)]) := X1.out.cell 0
    have p1 : x1.cell? ⟨W1.heap.size, 1, none⟩ = some (.int .i64 1) := X1.out.cell 1
    clear bx
    cases v1 with
    | true =>
      have hr : r = (⟨false, false, 0⟩, 1) := R3.out
      subst hr
      go_wp2_with fail
      refine (C1.out _ (A1.out.below D1.out)).mono ?_
      rintro e y ⟨rfl, by_⟩
      have AY := Lib.hid ((A1.out.below D1.out).below by_)
      have GY := Lib.hid (grown_trans (grown_trans G1.out (grown_below D1.out (some g))) (grown_below by_ (some g)))
      have YB := Lib.hid (X1.out.below by_ X1.out.lt)
      have d5 : y.cell? ⟨w.heap.size, 0, none⟩ = some (.pointer (some ⟨g, 0, none⟩)) := AY.out.p5.cell 0
      clear by_ p0 p1
      go_wp2_with fail
      refine (stop_calls g s y AY.out.pr ho').mono ?_
      rintro e z ⟨rfl, pz, gz⟩
      have q1 : z.cell? ⟨W1.heap.size, 1, none⟩ = some (.int .i64 1) := (YB.out.grown gz (by simp; omega)).cell 1
      have PZ := Lib.hid pz
      have GZ := Lib.hid (grown_trans GY.out gz)
      clear pz gz d5
      go_wp2_with fail
      go_ret
      exact ⟨rfl, PZ.out, GZ.out⟩
    | false =>
      go_wp2_with fail
      refine (C1.out _ (A1.out.below D1.out)).mono ?_
      rintro e W2 ⟨rfl, by_⟩
      have A2 := Lib.hid ((A1.out.below D1.out).below by_)
      have G2 := Lib.hid (grown_trans (grown_trans G1.out (grown_below D1.out (some g))) (grown_below by_ (some g)))
      have Z2 : w.heap.size ≤ W2.heap.size := G2.out.size
      clear by_ p0 p1 X1 D1 A1 G1 C1 Z1
      go_wp2_with fail
      -- ask 2
      rw [rounds_succ]
      go_wp2_with fail
      refine (C2.out _ (A2.out.below ((Below.refl _ W2).alloc (Nat.le_refl _) (.cells #[.func (.func 63) #[] #[.pointer (some ⟨w.heap.size + 1, 0, none⟩), .pointer (some ⟨w.heap.size, 0, none⟩)], .int .i64 0] 87)))).mono ?_
      rintro e x2 ⟨rfl, bx⟩
      have X2 := Lib.hid ((Blk.new W2 87 #[.func (.func 63) #[] #[.pointer (some ⟨w.heap.size + 1, 0, none⟩), .pointer (some ⟨w.heap.size, 0, none⟩)], .int .i64 0]).below bx (by simp))
      have D2 := Lib.hid (below_then ((Below.refl _ W2).alloc (Nat.le_refl _) (.cells #[.func (.func 63) #[] #[.pointer (some ⟨w.heap.size + 1, 0, none⟩), .pointer (some ⟨w.heap.size, 0, none⟩)], .int .i64 0] 87)) (by simp) bx)
      have p0 : x2.cell? ⟨W2.heap.size, 0, none⟩ = some (.func (.func 63) #[] #[.pointer (some ⟨w.heap.size + 1, 0, none⟩), .pointer (some ⟨w.heap.size, 0, none⟩)]) := X2.out.cell 0
      have p1 : x2.cell? ⟨W2.heap.size, 1, none⟩ = some (.int .i64 0) := X2.out.cell 1
      clear bx
      cases v2 with
      | true =>
        have hr : r = (s, 0) := R3.out
        subst hr
        go_wp2_with fail
        go_ret
        exact ⟨rfl, (A2.out.below D2.out).pr, grown_trans G2.out (grown_below D2.out (some g))⟩
      | false =>
        go_wp2_with fail
        refine (C2.out _ (A2.out.below D2.out)).mono ?_
        rintro e W3 ⟨rfl, by_⟩
        have A3 := Lib.hid ((A2.out.below D2.out).below by_)
        have G3 := Lib.hid (grown_trans (grown_trans G2.out (grown_below D2.out (some g))) (grown_below by_ (some g)))
        have Z3 : w.heap.size ≤ W3.heap.size := G3.out.size
        clear by_ p0 p1 X2 D2 A2 G2 C2 Z2
        go_wp2_with fail
        -- ask 3
        rw [rounds_succ]
        go_wp2_with fail
        refine (C3.out _ (A3.out.below ((Below.refl _ W3).alloc (Nat.le_refl _) (.cells #[.func (.func 64) #[] #[.pointer (some ⟨w.heap.size, 0, none⟩)], .int .i64 1] 87)))).mono ?_
        rintro e x3 ⟨rfl, bx⟩
        have X3 := Lib.hid ((Blk.new W3 87 #[.func (.func 64) #[] #[.pointer (some ⟨w.heap.size, 0, none⟩)], .int .i64 1]).below bx (by simp))
        have D3 := Lib.hid (below_then ((Below.refl _ W3).alloc (Nat.le_refl _) (.cells #[.func (.func 64) #[] #[.pointer (some ⟨w.heap.size, 0, none⟩)], .int .i64 1] 87)) (by simp) bx)
        have p0 : x3.cell? ⟨W3.heap.size, 0, none⟩ = some (.func (.func 64) #[] #[.pointer (some ⟨w.heap.size, 0, none⟩)]) := X3.out.cell 0
        have p1 : x3.cell? ⟨W3.heap.size, 1, none⟩ = some (.int .i64 1) := X3.out.cell 1
        clear bx
        cases v3 with
        | true =>
          have hr : r = (⟨false, false, 0⟩, 1) := R3.out
          subst hr
          go_wp2_with fail
          refine (C3.out _ (A3.out.below D3.out)).mono ?_
          rintro e y ⟨rfl, by_⟩
          have AY := Lib.hid ((A3.out.below D3.out).below by_)
          have GY := Lib.hid (grown_trans (grown_trans G3.out (grown_below D3.out (some g))) (grown_below by_ (some g)))
          have YB := Lib.hid (X3.out.below by_ X3.out.lt)
          have d5 : y.cell? ⟨w.heap.size, 0, none⟩ = some (.pointer (some ⟨g, 0, none⟩)) := AY.out.p5.cell 0
          clear by_ p0 p1
          go_wp2_with fail
          refine (stop_calls g s y AY.out.pr ho').mono ?_
          rintro e z ⟨rfl, pz, gz⟩
          have q1 : z.cell? ⟨W3.heap.size, 1, none⟩ = some (.int .i64 1) := (YB.out.grown gz (by simp; omega)).cell 1
          have PZ := Lib.hid pz
          have GZ := Lib.hid (grown_trans GY.out gz)
          clear pz gz d5
          go_wp2_with fail
          go_ret
          exact ⟨rfl, PZ.out, GZ.out⟩
        | false =>
          go_wp2_with fail
          refine (C3.out _ (A3.out.below D3.out)).mono ?_
          rintro e W4 ⟨rfl, by_⟩
          have A4 := Lib.hid ((A3.out.below D3.out).below by_)
          have G4 := Lib.hid (grown_trans (grown_trans G3.out (grown_below D3.out (some g))) (grown_below by_ (some g)))
          have Z4 : w.heap.size ≤ W4.heap.size := G4.out.size
          clear by_ p0 p1 X3 D3 A3 G3 C3 Z3
          go_wp2_with fail
          -- ask 4
          rw [rounds_succ]
          go_wp2_with fail
          refine (C4.out _ (A4.out.below ((Below.refl _ W4).alloc (Nat.le_refl _) (.cells #[.func (.func 65) #[] #[.pointer (some ⟨w.heap.size + 1, 0, none⟩), .pointer (some ⟨w.heap.size, 0, none⟩)], .int .i64 2] 87)))).mono ?_
          rintro e x4 ⟨rfl, bx⟩
          have X4 := Lib.hid ((Blk.new W4 87 #[.func (.func 65) #[] #[.pointer (some ⟨w.heap.size + 1, 0, none⟩), .pointer (some ⟨w.heap.size, 0, none⟩)], .int .i64 2]).below bx (by simp))
          have D4 := Lib.hid (below_then ((Below.refl _ W4).alloc (Nat.le_refl _) (.cells #[.func (.func 65) #[] #[.pointer (some ⟨w.heap.size + 1, 0, none⟩), .pointer (some ⟨w.heap.size, 0, none⟩)], .int .i64 2] 87)) (by simp) bx)
          have p0 : x4.cell? ⟨W4.heap.size, 0, none⟩ = some (.func (.func 65) #[] #[.pointer (some ⟨w.heap.size + 1, 0, none⟩), .pointer (some ⟨w.heap.size, 0, none⟩)]) := X4.out.cell 0
          have p1 : x4.cell? ⟨W4.heap.size, 1, none⟩ = some (.int .i64 2) := X4.out.cell 1
          clear bx
          cases v4 with
          | true =>
            have hr : r = (⟨false, false, 0⟩, 2) := R3.out
            subst hr
            go_wp2_with fail
            refine (C4.out _ (A4.out.below D4.out)).mono ?_
            rintro e y ⟨rfl, by_⟩
            have AY := Lib.hid ((A4.out.below D4.out).below by_)
            have GY := Lib.hid (grown_trans (grown_trans G4.out (grown_below D4.out (some g))) (grown_below by_ (some g)))
            have YB := Lib.hid (X4.out.below by_ X4.out.lt)
            have d5 : y.cell? ⟨w.heap.size, 0, none⟩ = some (.pointer (some ⟨g, 0, none⟩)) := AY.out.p5.cell 0
            clear by_ p0 p1
            go_wp2_with fail
            refine (stop_calls g s y AY.out.pr ho').mono ?_
            rintro e z ⟨rfl, pz, gz⟩
            have q1 : z.cell? ⟨W4.heap.size, 1, none⟩ = some (.int .i64 2) := (YB.out.grown gz (by simp; omega)).cell 1
            have PZ := Lib.hid pz
            have GZ := Lib.hid (grown_trans GY.out gz)
            clear pz gz d5
            go_wp2_with fail
            go_ret
            exact ⟨rfl, PZ.out, GZ.out⟩
          | false =>
            go_wp2_with fail
            refine (C4.out _ (A4.out.below D4.out)).mono ?_
            rintro e W5 ⟨rfl, by_⟩
            have A5 := Lib.hid ((A4.out.below D4.out).below by_)
            have G5 := Lib.hid (grown_trans (grown_trans G4.out (grown_below D4.out (some g))) (grown_below by_ (some g)))
            have Z5 : w.heap.size ≤ W5.heap.size := G5.out.size
            clear by_ p0 p1 X4 D4 A4 G4 C4 Z4
            go_wp2_with fail
            -- ask 5
            rw [rounds_succ]
            go_wp2_with fail
            refine (C5.out _ (A5.out.below ((Below.refl _ W5).alloc (Nat.le_refl _) (.cells #[.func (.func 66) #[] #[.pointer (some ⟨w.heap.size + 1 + 1 + 1 + 1, 0, none⟩)], .int .i64 1] 87)))).mono ?_
            rintro e x5 ⟨rfl, bx⟩
            have X5 := Lib.hid ((Blk.new W5 87 #[.func (.func 66) #[] #[.pointer (some ⟨w.heap.size + 1 + 1 + 1 + 1, 0, none⟩)], .int .i64 1]).below bx (by simp))
            have D5 := Lib.hid (below_then ((Below.refl _ W5).alloc (Nat.le_refl _) (.cells #[.func (.func 66) #[] #[.pointer (some ⟨w.heap.size + 1 + 1 + 1 + 1, 0, none⟩)], .int .i64 1] 87)) (by simp) bx)
            have p0 : x5.cell? ⟨W5.heap.size, 0, none⟩ = some (.func (.func 66) #[] #[.pointer (some ⟨w.heap.size + 1 + 1 + 1 + 1, 0, none⟩)]) := X5.out.cell 0
            have p1 : x5.cell? ⟨W5.heap.size, 1, none⟩ = some (.int .i64 1) := X5.out.cell 1
            clear bx
            cases v5 with
            | true =>
              have hr : r = (⟨false, false, 0⟩, 1) := R3.out
              subst hr
              go_wp2_with fail
              refine (C5.out _ (A5.out.below D5.out)).mono ?_
              rintro e y ⟨rfl, by_⟩
              have AY := Lib.hid ((A5.out.below D5.out).below by_)
              have GY := Lib.hid (grown_trans (grown_trans G5.out (grown_below D5.out (some g))) (grown_below by_ (some g)))
              have YB := Lib.hid (X5.out.below by_ X5.out.lt)
              have d5 : y.cell? ⟨w.heap.size, 0, none⟩ = some (.pointer (some ⟨g, 0, none⟩)) := AY.out.p5.cell 0
              clear by_ p0 p1
              go_wp2_with fail
              refine (stop_calls g s y AY.out.pr ho').mono ?_
              rintro e z ⟨rfl, pz, gz⟩
              have q1 : z.cell? ⟨W5.heap.size, 1, none⟩ = some (.int .i64 1) := (YB.out.grown gz (by simp; omega)).cell 1
              have PZ := Lib.hid pz
              have GZ := Lib.hid (grown_trans GY.out gz)
              clear pz gz d5
              go_wp2_with fail
              go_ret
              exact ⟨rfl, PZ.out, GZ.out⟩
            | false =>
              go_wp2_with fail
              refine (C5.out _ (A5.out.below D5.out)).mono ?_
              rintro e W6 ⟨rfl, by_⟩
              have A6 := Lib.hid ((A5.out.below D5.out).below by_)
              have G6 := Lib.hid (grown_trans (grown_trans G5.out (grown_below D5.out (some g))) (grown_below by_ (some g)))
              have Z6 : w.heap.size ≤ W6.heap.size := G6.out.size
              clear by_ p0 p1 X5 D5 A5 G5 C5 Z5
              go_wp2_with fail
              rw [rounds_succ]
              go_wp2_with fail
              have hr : r = (s, 0) := R3.out
              subst hr
              go_ret
              exact ⟨rfl, A6.out.pr, G6.out⟩
end Go.Proofs.Ythafjgaleonbgaa.Probe
