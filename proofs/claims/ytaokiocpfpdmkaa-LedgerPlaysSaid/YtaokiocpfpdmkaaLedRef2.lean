/- Chapter 19 (ledger): the document's ledger: Again. -/
import Derived.Test.YtaokiocpfpdmkaaLedRef
set_option linter.unusedSimpArgs false
set_option linter.unusedVariables false
attribute [local go_sem ↓] Go.wp_at_zero Go.wp_at_succ
namespace Go.Proofs.Ytaokiocpfpdmkaa.Led
open Go.BigFrame Go.RowKit Go.OpenShut Go.Proofs.Ytaokiocpfpdmkaa.Aid Go.Proofs.Ytaokiocpfpdmkaa.Spans
/-- The boxes of a call of the document's: the ledger, the span, what is to come. -/
structure Boxes (w W : World) (o : Bool) (cw th : Int) (v : Value) (sp : Bool) (s : Span) : Prop where
  b0 : Blk W w.heap.size 63 #[.bool o, .int .i64 cw, .int .i64 th, v, .bool sp]
  b1 : Blk W (w.heap.size + 1) 26 #[.int .i64 s.lo, .int .i64 s.hi]
  b2 : Blk W (w.heap.size + 1 + 1) 63 #[.bool false, .int .i64 0, .int .i64 0, .slice Option.none 0 0, .bool false]
  bel : Below w.heap.size w W
theorem boxes_new (w : World) (o : Bool) (cw th : Int) (v : Value) (sp : Bool) (s : Span) : Boxes w (((w.alloc (.cells #[.bool o, .int .i64 cw, .int .i64 th, v, .bool sp] 63)).alloc (.cells #[.int .i64 s.lo, .int .i64 s.hi] 26)).alloc (.cells #[.bool false, .int .i64 0, .int .i64 0, .slice Option.none 0 0, .bool false] 63)) o cw th v sp s := by
  have h1 := Blk.new (w.alloc (.cells #[.bool o, .int .i64 cw, .int .i64 th, v, .bool sp] 63)) 26 #[.int .i64 s.lo, .int .i64 s.hi]
  have h2 := Blk.new ((w.alloc (.cells #[.bool o, .int .i64 cw, .int .i64 th, v, .bool sp] 63)).alloc (.cells #[.int .i64 s.lo, .int .i64 s.hi] 26)) 63 #[.bool false, .int .i64 0, .int .i64 0, .slice Option.none 0 0, .bool false]
  refine ⟨((Blk.new w 63 _).alloc _).alloc _, ?_, ?_, (((Below.refl _ w).alloc (Nat.le_refl _) _).alloc (by simp) _).alloc (by simp; omega) _⟩
  · have := h1.alloc (.cells #[.bool false, .int .i64 0, .int .i64 0, .slice Option.none 0 0, .bool false] 63)
    simpa using this
  · simpa using h2
theorem Boxes.below {w W W' : World} {o : Bool} {cw th : Int} {v : Value} {sp : Bool} {s : Span} (h : Boxes w W o cw th v sp s) (hb : Below W.heap.size W W') : Boxes w W' o cw th v sp s :=
  ⟨h.b0.below hb h.b0.lt, h.b1.below hb h.b1.lt, h.b2.below hb h.b2.lt, below_then h.bel h.bel.size hb⟩
theorem put_five {w W : World} {g : Nat} {o o' : Bool} {cw cw' th th' : Int} {v v' : Value} {sp sp' : Bool} (h : Blk W g 63 #[.bool o, .int .i64 cw, .int .i64 th, v, .bool sp]) (hb : Below w.heap.size w W) (hg : w.heap.size ≤ g) :
    Blk (((((W.setCell ⟨g, 0, Option.none⟩ (.bool o')).setCell ⟨g, 1, Option.none⟩ (.int .i64 cw')).setCell ⟨g, 2, Option.none⟩ (.int .i64 th')).setCell ⟨g, 3, Option.none⟩ v').setCell ⟨g, 4, Option.none⟩ (.bool sp')) g 63 #[.bool o', .int .i64 cw', .int .i64 th', v', .bool sp'] ∧
    Below w.heap.size w (((((W.setCell ⟨g, 0, Option.none⟩ (.bool o')).setCell ⟨g, 1, Option.none⟩ (.int .i64 cw')).setCell ⟨g, 2, Option.none⟩ (.int .i64 th')).setCell ⟨g, 3, Option.none⟩ v').setCell ⟨g, 4, Option.none⟩ (.bool sp')) :=
  ⟨(((((h.set_ 0 _).set_ 1 _).set_ 2 _).set_ 3 _).set_ 4 _).eq (by simp), ((((hb.setCell hg _).setCell hg _).setCell hg _).setCell hg _).setCell hg _⟩
theorem ragain_range (L : Led) (A : Option Addr) (n c : Nat) (s : Span) (w : World) (hl : len s = 0) : Calls Try.prog 65 #[byVal L (.slice A n c), .agg #[.int .i64 s.lo, .int .i64 s.hi]] w (Val w L (.slice A n c) (.int .i64 3)) := by
  obtain ⟨o, cw, th, xs, sp⟩ := L
  have K := Lib.hid (len_ref s)
  rw [hl] at K
  have B0 := Lib.hid (boxes_new w o cw th (.slice A n c) sp s)
  clear hl
  unfold byVal
  go_enter Try.func65, Try.ntmps65
  go_wp2_with fail
  refine (K.out _).mono ?_
  rintro e w1 ⟨rfl, hb⟩
  have B1 := Lib.hid (B0.out.below hb)
  have x0 := B1.out.b0.cell 0
  have x1 := B1.out.b0.cell 1
  have x2 := B1.out.b0.cell 2
  have x3 := B1.out.b0.cell 3
  have x4 := B1.out.b0.cell 4
  have y0 := B1.out.b2.cell 0
  have y1 := B1.out.b2.cell 1
  have y2 := B1.out.b2.cell 2
  have y3 := B1.out.b2.cell 3
  have y4 := B1.out.b2.cell 4
  have fz := B1.out.b2.frozen
  clear hb
  go_wp2
  have F := put_five (o' := o) (cw' := cw) (th' := th) (v' := .slice A n c) (sp' := sp) B1.out.b2 B1.out.bel (by omega)
  revert F
  generalize (((((w1.setCell ⟨w.heap.size + 1 + 1, 0, Option.none⟩ (.bool o)).setCell ⟨w.heap.size + 1 + 1, 1, Option.none⟩ (.int .i64 cw)).setCell ⟨w.heap.size + 1 + 1, 2, Option.none⟩ (.int .i64 th)).setCell ⟨w.heap.size + 1 + 1, 3, Option.none⟩ (.slice A n c)).setCell ⟨w.heap.size + 1 + 1, 4, Option.none⟩ (.bool sp)) = W'
  rintro ⟨F1, F2⟩
  have z0 := F1.cell 0
  have z1 := F1.cell 1
  have z2 := F1.cell 2
  have z3 := F1.cell 3
  have z4 := F1.cell 4
  simp at z0 z1 z2 z3 z4
  exact bodyPost_ret (v := .tuple #[byVal ⟨o, cw, th, xs, sp⟩ (.slice A n c), .int .i64 3]) (by simp [results, Try.results65, go_sem, byVal, z0, z1, z2, z3, z4]; done) rfl ⟨rfl, F2⟩
theorem ragain_full (L : Led) (A : Option Addr) (n c : Nat) (s : Span) (w : World) (hl : len s ≠ 0) (hn : 256 ≤ n) : Calls Try.prog 65 #[byVal L (.slice A n c), .agg #[.int .i64 s.lo, .int .i64 s.hi]] w (Val w ⟨L.opn, L.cwnd, L.thresh, L.list, true⟩ (.slice A n c) (.int .i64 4)) := by
  obtain ⟨o, cw, th, xs, sp⟩ := L
  have K := Lib.hid (len_ref s)
  have hl2 : (len s == 0) = false := by simpa using hl
  have hl1 : decide (len s = 0) = false := by simpa using hl
  have hn2 : (256 : Int) ≤ (n : Int) := by omega
  generalize len s = ls at *
  have B0 := Lib.hid (boxes_new w o cw th (.slice A n c) sp s)
  clear hl hn
  unfold byVal
  go_enter Try.func65, Try.ntmps65
  go_wp2_with fail
  refine (K.out _).mono ?_
  rintro e w1 ⟨rfl, hb⟩
  have B1 := Lib.hid (B0.out.below hb)
  have x0 := B1.out.b0.cell 0
  have x1 := B1.out.b0.cell 1
  have x2 := B1.out.b0.cell 2
  have x3 := B1.out.b0.cell 3
  have x4 := B1.out.b0.cell 4
  have y0 := B1.out.b2.cell 0
  have y1 := B1.out.b2.cell 1
  have y2 := B1.out.b2.cell 2
  have y3 := B1.out.b2.cell 3
  have y4 := B1.out.b2.cell 4
  have fz := B1.out.b2.frozen
  have fx := B1.out.b0.frozen
  clear hb
  go_wp2
  have F := put_five (o' := o) (cw' := cw) (th' := th) (v' := .slice A n c) (sp' := true) (B1.out.b2.far (p := ⟨w.heap.size, 4, Option.none⟩) (by simp; omega) (.bool true)) (B1.out.bel.setCell (by simp) _) (by omega)
  revert F
  generalize ((((((w1.setCell ⟨w.heap.size, 4, Option.none⟩ (.bool true)).setCell ⟨w.heap.size + 1 + 1, 0, Option.none⟩ (.bool o)).setCell ⟨w.heap.size + 1 + 1, 1, Option.none⟩ (.int .i64 cw)).setCell ⟨w.heap.size + 1 + 1, 2, Option.none⟩ (.int .i64 th)).setCell ⟨w.heap.size + 1 + 1, 3, Option.none⟩ (.slice A n c)).setCell ⟨w.heap.size + 1 + 1, 4, Option.none⟩ (.bool true)) = W'
  rintro ⟨F1, F2⟩
  have z0 := F1.cell 0
  have z1 := F1.cell 1
  have z2 := F1.cell 2
  have z3 := F1.cell 3
  have z4 := F1.cell 4
  simp at z0 z1 z2 z3 z4
  exact bodyPost_ret (v := .tuple #[byVal ⟨o, cw, th, xs, true⟩ (.slice A n c), .int .i64 4]) (by simp [results, Try.results65, go_sem, byVal, z0, z1, z2, z3, z4]; done) rfl ⟨rfl, F2⟩
theorem put_far {W : World} {g k : Nat} {o' : Bool} {cw' th' : Int} {v' : Value} {sp' : Bool} (hk : k ≠ g) :
    (((((W.setCell ⟨g, 0, Option.none⟩ (.bool o')).setCell ⟨g, 1, Option.none⟩ (.int .i64 cw')).setCell ⟨g, 2, Option.none⟩ (.int .i64 th')).setCell ⟨g, 3, Option.none⟩ v').setCell ⟨g, 4, Option.none⟩ (.bool sp')).heap[k]? = W.heap[k]? := by
  rw [Below.heap_setCell _ _ _ k hk, Below.heap_setCell _ _ _ k hk, Below.heap_setCell _ _ _ k hk, Below.heap_setCell _ _ _ k hk, Below.heap_setCell _ _ _ k hk]
/-- What comes of a call: a ledger by value, whose list is the call's own, and a word. -/
def RVal (w : World) (L : Led) (r : Value) (e : Ending) (w' : World) : Prop :=
  ∃ A n c, e = .returned (.tuple #[byVal L (.slice A n c), r]) ∧ RowOf 26 2 encS w' (.slice A n c) L.list ∧ Below w.heap.size w w' ∧ ∀ k, (Value.slice A n c).ownBlock = some k → w.heap.size ≤ k
theorem row_newS (w : World) : RowOf 26 2 encS (w.alloc (.cells #[] 26)) (.slice (some ⟨w.heap.size, 0, Option.none⟩) 0 0) ([] : List Span) :=
  .inr ⟨w.heap.size, 0, #[], rfl, Nat.le_refl _, by omega, Blk.new w 26 #[], by simp, by simp⟩
theorem srcS {w : World} {v : Value} {xs : List Span} (h : RowOf 26 2 encS w v xs) : ∃ A c, v = .slice A xs.length c ∧ (A = Option.none → c = 0) ∧ Aid.Reps w A 2 encS xs := by
  obtain ⟨A, c, h1, h2, h3⟩ := h.reps encS_len
  refine ⟨A, c, h1, fun hA => ?_, h3⟩
  obtain ⟨h0, _⟩ | ⟨b, cap, cur, h0, _⟩ := h
  · rw [h1] at h0
    injection h0
  · rw [h1, hA] at h0
    injection h0 with h4
    cases h4
set_option maxRecDepth 100000 in
set_option maxHeartbeats 4000000 in
theorem ragain_ok (L : Led) (A : Option Addr) (n c : Nat) (s : Span) (w : World) (hr : RowOf 26 2 encS w (.slice A n c) L.list) (hl : len s ≠ 0) (hn : L.list.length < 256) : Calls Try.prog 65 #[byVal L (.slice A n c), .agg #[.int .i64 s.lo, .int .i64 s.hi]] w (RVal w ⟨L.opn, L.cwnd, L.thresh, L.list ++ [s], L.spilt⟩ (.int .i64 0)) := by
  obtain ⟨i0, hi, hz0, hz1, hz2⟩ := info_parts info26
  obtain ⟨o, cw, th, xs, sp⟩ := L
  simp only at hr hn ⊢
  obtain ⟨A', c', e, hA, hR⟩ := srcS hr
  injection e with e1 e2 e3
  subst e1 e2 e3
  have K := Lib.hid (len_ref s)
  have hl2 : (len s == 0) = false := by simpa using hl
  have hl1 : decide (len s = 0) = false := by simpa using hl
  have hn2 : ¬ (256 : Int) ≤ (xs.length : Int) := by omega
  generalize len s = ls at *
  have B0 := Lib.hid (boxes_new w o cw th (.slice A xs.length c) sp s)
  have R := Lib.hid hR
  have HA := Lib.hid hA
  have HN := Lib.hid hn
  clear hl hn hr hR hA
  unfold byVal
  go_enter Try.func65, Try.ntmps65
  go_wp2_with fail
  refine (K.out _).mono ?_
  rintro e w1 ⟨rfl, hb⟩
  have B1 := Lib.hid (B0.out.below hb)
  have x3 := B1.out.b0.cell 3
  have x3a := (B1.out.below ((Below.refl _ w1).alloc (Nat.le_refl _) (.cells #[] 26))).b0.cell 3
  clear hb
  go_wp2_with (at_builtin; refine wpList_append_any (by rfl) _ _ 27 (by rfl) i0 _ 16 Try.underlying27 hi hz0 hz1 hz2 (by decide) (by decide) encS_len encS_one (.slice (some ⟨w1.heap.size, 0, Option.none⟩) 0 0) ([] : List Span) (by rfl) (row_newS w1) A xs.length c xs rfl (by rfl) HA.out (R.out.below (B1.out.bel.alloc B1.out.bel.size _)) ?k2 ?k3 ?k4)
  case k2 => have := HN.out; simp; unfold maxLen; omega
  case k3 => have := HN.out; simp; omega
  case k4 =>
    intro v2 w2 hr2 ha2
    have hr2 : RowOf 26 2 encS w2 v2 xs := hr2
    obtain ⟨A2, n2, c2, rfl⟩ := hr2.some_slice
    have O2 : Hid (∀ k, (Value.slice A2 n2 c2).ownBlock = some k → w1.heap.size ≤ k) := Lib.hid (fun k hk => by
      rcases ha2.own k hk with h1 | h1
      · have : w1.heap.size = k := by simpa [Value.ownBlock] using h1
        omega
      · simp at h1
        omega)
    have L2 : Hid (Below w1.heap.size w1 w2) := Lib.hid (below_app ((Below.refl _ w1).alloc (Nat.le_refl _) (.cells #[] 26)) ha2 (fun k hk => by
      have : w1.heap.size = k := by simpa [Value.ownBlock] using hk
      omega))
    have B2 := Lib.hid (B1.out.below L2.out)
    have y0 := B2.out.b1.cell 0
    have y1 := B2.out.b1.cell 1
    have R2 := Lib.hid hr2
    clear hr2 ha2 x3 x3a
    go_wp2_with (at_builtin; refine wpList_append_row (by rfl) _ _ 27 (by rfl) i0 _ 16 Try.underlying27 hi hz0 hz1 hz2 (by decide) (by decide) encS_len encS_one (.slice A2 n2 c2) xs (by rfl) (row_alloc R2.out _) _ 1 _ [s] rfl (by rfl) (src_one (heap_alloc_new _ _)) ?k5 ?k6 ?k7)
    case k5 => have := HN.out; unfold maxLen; omega
    case k6 => have := HN.out; omega
    case k7 =>
      intro v3 w3 hr3 ha3
      obtain ⟨A3, n3, c3, rfl⟩ := hr3.some_slice
      have hsz := L2.out.size
      have O3 : Hid (∀ k, (Value.slice A3 n3 c3).ownBlock = some k → w1.heap.size ≤ k) := Lib.hid (fun k hk => by
        rcases ha3.own k hk with h1 | h1
        · exact O2.out k h1
        · simp at h1
          omega)
      have L3 : Hid (Below w1.heap.size w1 w3) := Lib.hid (below_app (L2.out.alloc L2.out.size _) ha3 O2.out)
      have B3 := Lib.hid (B1.out.below L3.out)
      have R3 := Lib.hid hr3
      have HS : Hid (w.heap.size + 1 + 1 < w1.heap.size) := Lib.hid B1.out.b2.lt
      clear hr3 ha3 y0 y1
      have x0 := B3.out.b0.cell 0
      have x1 := B3.out.b0.cell 1
      have x2 := B3.out.b0.cell 2
      have x3 := B3.out.b0.cell 3
      have x4 := B3.out.b0.cell 4
      have y0 := B3.out.b2.cell 0
      have y1 := B3.out.b2.cell 1
      have y2 := B3.out.b2.cell 2
      have y3 := B3.out.b2.cell 3
      have y4 := B3.out.b2.cell 4
      have fz := B3.out.b2.frozen
      have fx := B3.out.b0.frozen
      go_wp2
      have F := put_five (o' := o) (cw' := cw) (th' := th) (v' := .slice A3 n3 c3) (sp' := sp) (B3.out.b2.far (p := ⟨w.heap.size, 3, Option.none⟩) (by simp; omega) (.slice A3 n3 c3)) (B3.out.bel.setCell (by simp) _) (by omega)
      have G : RowOf 26 2 encS (((((((w3.setCell ⟨w.heap.size, 3, Option.none⟩ (.slice A3 n3 c3)).setCell ⟨w.heap.size + 1 + 1, 0, Option.none⟩ (.bool o)).setCell ⟨w.heap.size + 1 + 1, 1, Option.none⟩ (.int .i64 cw)).setCell ⟨w.heap.size + 1 + 1, 2, Option.none⟩ (.int .i64 th)).setCell ⟨w.heap.size + 1 + 1, 3, Option.none⟩ (.slice A3 n3 c3)).setCell ⟨w.heap.size + 1 + 1, 4, Option.none⟩ (.bool sp))) (.slice A3 n3 c3) (xs ++ [s]) := R3.out.same (fun k hk => by
        have h1 := O3.out k hk
        have h2 := HS.out
        rw [put_far (by omega)]
        exact Below.heap_setCell _ _ _ k (by simp; omega))
      revert F G
      generalize ((((((w3.setCell ⟨w.heap.size, 3, Option.none⟩ (.slice A3 n3 c3)).setCell ⟨w.heap.size + 1 + 1, 0, Option.none⟩ (.bool o)).setCell ⟨w.heap.size + 1 + 1, 1, Option.none⟩ (.int .i64 cw)).setCell ⟨w.heap.size + 1 + 1, 2, Option.none⟩ (.int .i64 th)).setCell ⟨w.heap.size + 1 + 1, 3, Option.none⟩ (.slice A3 n3 c3)).setCell ⟨w.heap.size + 1 + 1, 4, Option.none⟩ (.bool sp)) = W'
      rintro ⟨F1, F2⟩ G
      have z0 := F1.cell 0
      have z1 := F1.cell 1
      have z2 := F1.cell 2
      have z3 := F1.cell 3
      have z4 := F1.cell 4
      simp at z0 z1 z2 z3 z4
      exact bodyPost_ret (v := .tuple #[byVal ⟨o, cw, th, xs ++ [s], sp⟩ (.slice A3 n3 c3), .int .i64 0]) (by simp [results, Try.results65, go_sem, byVal, z0, z1, z2, z3, z4]; done) rfl ⟨A3, n3, c3, rfl, G, F2, fun k hk => by have h1 := O3.out k hk; have h2 := HS.out; omega⟩
end Go.Proofs.Ytaokiocpfpdmkaa.Led
