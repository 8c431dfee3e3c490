/- Chapter 25 (duct): Nth of a duct that lies (38): within its bounds. -/
import Derived.Test.YtiphkgkhfomcaaaDuctNth2
import Derived.Test.YtiphkgkhfomcaaaDuctNone
set_option linter.unusedSimpArgs false
set_option linter.unusedVariables false
attribute [local go_sem ↓] Go.wp_at_zero Go.wp_at_succ
namespace Go.Proofs.Ytiphkgkhfomcaaa.Duct
open Go.BigFrame Go.RowKit Go.OpenShut Go.Shelf Go.Proofs.Ytiphkgkhfomcaaa.Aid Go.Proofs.Ytiphkgkhfomcaaa.DMap Go.Proofs.Ytiphkgkhfomcaaa.Byt Go.Proofs.Ytiphkgkhfomcaaa.Told
attribute [local go_sem] Oper.semAt_some
/-- How it stands ahead of round k. -/
structure NthI (w W : World) (H k i : Nat) : Prop where
  b3 : Blk W H 3 #[.int .i64 ((i - k : Nat) : Int)]
  b4 : Blk W (H + 1) 82 #[.int .i64 0, .int .i64 0, .int .i64 0, nilS]
  b5 : Blk W (H + 1 + 1) 4 #[.bool false]
  bel : Below H w W
  le : k ≤ i
  sz : H + 3 ≤ W.heap.size
/-- Behind the round that has found it. -/
structure NthX (L : Dt) (w W : World) (H k i : Nat) (v : Value) : Prop where
  e : k = i
  b4 : Blk W (H + 1) 82 #[.int .i64 (idAt L i), .int .i64 (fateAt L i).of_, .int .i64 (fateAt L i).at_, v]
  b5 : Blk W (H + 1 + 1) 4 #[.bool true]
  bel : Below H w W
  vc : VC L H i v W
/-- What the round knows of its piece. -/
structure NthA (L : Dt) (W : World) (H k : Nat) (v : Value) (Bx : Nat) : Prop where
  b6 : Blk W Bx 82 #[.int .i64 (idAt L k), .int .i64 (fateAt L k).of_, .int .i64 (fateAt L k).at_, v]
  far : H + 3 ≤ Bx
  vc : VC L H k v W
section
variable {w W W' : World} {L : Dt} {H k i : Nat} {v : Value} {row : Option Nat}
theorem bel_own {B : Nat} (h : Below H w W) (hs : H ≤ w.heap.size) (hB : w.heap.size ≤ B) (hg : W.grownBy W' row) (hr : ∀ r, row = some r → B ≤ r) : Below H w W' :=
  h.trans ⟨hg.os, hg.tape, hg.output, hg.size, fun j hj => hg.block j (by have := h.size; omega) (fun e => by have := hr j e.symm; omega)⟩
theorem vc_own (h : VC L H k v W) (hg : W.grownBy W' row) (hr : ∀ r, row = some r → ∃ o : Obj, W.heap[r]? = some o ∧ o.isCells = false) : VC L H k v W' := by
  obtain ⟨xs, h1, h2, h3, h4⟩ := h
  refine ⟨xs, h1, h2, ?_, h4⟩
  rcases h3 with ⟨a, b⟩ | ⟨b, cap, cur, e, q1, q2, q3, q4, q5⟩
  · exact .inl ⟨a, b⟩
  · exact .inr ⟨b, cap, cur, e, q1, q2, blk_own (t := 5) q3 hg hr, q4, q5⟩
theorem nthI_own {B : Nat} (hs : H ≤ w.heap.size) (hB : w.heap.size ≤ B) : OwnFrom B (fun k W => NthI w W H k i) := fun k X Y row h hg hr =>
  have hr' : ∀ r, row = some r → ∃ o : Obj, X.heap[r]? = some o ∧ o.isCells = false := fun r e => (hr r e).2
  ⟨blk_own h.b3 hg hr', blk_own h.b4 hg hr', blk_own h.b5 hg hr', bel_own h.bel hs hB hg (fun r e => (hr r e).1), h.le, Nat.le_trans h.sz hg.size⟩
theorem nthX_own {B : Nat} (hs : H ≤ w.heap.size) (hB : w.heap.size ≤ B) : OwnFrom B (fun k W => ∃ v, NthX L w W H k i v) := fun k X Y row ⟨v, h⟩ hg hr =>
  have hr' : ∀ r, row = some r → ∃ o : Obj, X.heap[r]? = some o ∧ o.isCells = false := fun r e => (hr r e).2
  ⟨v, h.e, blk_own h.b4 hg hr', blk_own h.b5 hg hr', bel_own h.bel hs hB hg (fun r e => (hr r e).1), vc_own h.vc hg hr'⟩
theorem NthI.below (h : NthI w W H k i) (hb : Below W.heap.size W W') : NthI w W' H k i := ⟨h.b3.below hb h.b3.lt, h.b4.below hb h.b4.lt, h.b5.below hb h.b5.lt, h.bel.trans (hb.mono (by have := h.b3.lt; omega)), h.le, Nat.le_trans h.sz hb.size⟩
theorem VC.below (h : VC L H k v W) (hb : Below W.heap.size W W') : VC L H k v W' := by
  obtain ⟨xs, h1, h2, h3, h4⟩ := h
  exact ⟨xs, h1, h2, h3.below hb, h4⟩
theorem VC.slice (h : VC L H k v W) : ∃ A n c, v = .slice A n c := by
  obtain ⟨xs, _, _, h3, _⟩ := h
  exact h3.some_slice
theorem kpF_below {B : Nat} (hs : H ≤ W.heap.size) (hb : Below W.heap.size W W') : KpF H B W W' := ⟨hb.mono hs, fun k _ o ho _ => (hb.block k (Array.getElem?_eq_some_iff.1 ho).1).trans ho⟩
theorem row5_far {g : Nat} {ty : TypeId} {cs : Array Value} {xs : List Int} (h : RowOf 5 1 encB W v xs) (hg : Blk W g ty cs) (hty : ty ≠ 5) (j : Nat) (hj : v.ownBlock = some j) : j ≠ g := fun e => by
  subst e
  rcases h with ⟨a, b⟩ | ⟨b, cap, cur, e, q1, q2, q3, q4, q5⟩
  · rw [a] at hj; cases hj
  · rw [e] at hj
    obtain rfl : b = j := by simpa [Value.ownBlock] using hj
    have := q3.symm.trans hg
    simp at this
    exact hty this.2.symm
theorem VC.far {p : Addr} {ty : TypeId} {cs : Array Value} (h : VC L H k v W) (hg : Blk W p.block ty cs) (hty : ty ≠ 5) (u : Value) : VC L H k v (W.setCell p u) := by
  obtain ⟨xs, h1, h2, h3, h4⟩ := h
  exact ⟨xs, h1, h2, h3.same (fun j hj => Below.heap_setCell _ _ _ j (row5_far h3 hg hty j hj)), h4⟩
theorem kpF_set {B : Nat} {p : Addr} (h1 : H ≤ p.block) (h2 : p.block < B) (u : Value) : KpF H B W (W.setCell p u) := ⟨(Below.refl H W).setCell h1 u, fun k hk o ho _ => (Below.heap_setCell _ _ _ k (by omega)).trans ho⟩
theorem nth_next (h : NthI w W H k i) (hk : k + 1 ≤ i) {r : Nat} (hr : i - (k + 1) = r) : KeepsOthers W (W.setCell ⟨H, 0, Option.none⟩ (.int .i64 r)) ∧ KpF H (H + 3) W (W.setCell ⟨H, 0, Option.none⟩ (.int .i64 r)) ∧ NthI w (W.setCell ⟨H, 0, Option.none⟩ (.int .i64 r)) H (k + 1) i :=
  ⟨KeepsOthers.setCell _ _ _, kpF_set (p := ⟨H, 0, Option.none⟩) (B := H + 3) (Nat.le_refl _) (by show H < H + 3; omega) _, ⟨(h.b3.set_ 0 _).eq (by simp [hr]), h.b4.far (by simp) _, h.b5.far (by show H + 1 + 1 ≠ H; omega) _, h.bel.setCell (Nat.le_refl _) _, hk, by simpa [World.setCell] using h.sz⟩⟩
theorem nth_found {Bx : Nat} (h : NthI w W H k i) (hA : NthA L W H k v Bx) (hk : k = i) :
    let W' := ((((W.setCell ⟨H + 1, 0, Option.none⟩ (.int .i64 (idAt L i))).setCell ⟨H + 1, 1, Option.none⟩ (.int .i64 (fateAt L i).of_)).setCell ⟨H + 1, 2, Option.none⟩ (.int .i64 (fateAt L i).at_)).setCell ⟨H + 1, 3, Option.none⟩ v).setCell ⟨H + 1 + 1, 0, Option.none⟩ (.bool true)
    KeepsOthers W W' ∧ KpF H (H + 3) W W' ∧ NthX L w W' H k i v := by
  intro W'
  subst hk
  have k1 : ∀ {X : World} (o : Nat) (u : Value), KpF H (H + 3) X (X.setCell ⟨H + 1, o, Option.none⟩ u) := fun o u => kpF_set (by show H ≤ H + 1; omega) (by show H + 1 < H + 3; omega) u
  have k2 : ∀ {X : World} (o : Nat) (u : Value), KpF H (H + 3) X (X.setCell ⟨H + 1 + 1, o, Option.none⟩ u) := fun o u => kpF_set (by show H ≤ H + 1 + 1; omega) (by show H + 1 + 1 < H + 3; omega) u
  have hne : H + 1 ≠ H + 1 + 1 := by omega
  have s0 := h.b4.set_ 0 (.int .i64 (idAt L k))
  have s1 := s0.set_ 1 (.int .i64 (fateAt L k).of_)
  have s2 := s1.set_ 2 (.int .i64 (fateAt L k).at_)
  have s3 := s2.set_ 3 v
  have u3 := ((((h.b5.far (p := ⟨H + 1, 0, Option.none⟩) (Ne.symm hne) (.int .i64 (idAt L k))).far (p := ⟨H + 1, 1, Option.none⟩) (Ne.symm hne) (.int .i64 (fateAt L k).of_)).far (p := ⟨H + 1, 2, Option.none⟩) (Ne.symm hne) (.int .i64 (fateAt L k).at_)).far (p := ⟨H + 1, 3, Option.none⟩) (Ne.symm hne) v)
  have v0 := hA.vc.far (p := ⟨H + 1, 0, Option.none⟩) h.b4 (by decide) (.int .i64 (idAt L k))
  have v1 := v0.far (p := ⟨H + 1, 1, Option.none⟩) s0 (by decide) (.int .i64 (fateAt L k).of_)
  have v2 := v1.far (p := ⟨H + 1, 2, Option.none⟩) s1 (by decide) (.int .i64 (fateAt L k).at_)
  have v3 := v2.far (p := ⟨H + 1, 3, Option.none⟩) s2 (by decide) v
  have v4 := v3.far (p := ⟨H + 1 + 1, 0, Option.none⟩) u3 (by decide) (.bool true)
  have K := kpF_t (kpF_t (kpF_t (kpF_t (k1 (X := W) 0 (.int .i64 (idAt L k))) (k1 1 (.int .i64 (fateAt L k).of_))) (k1 2 (.int .i64 (fateAt L k).at_))) (k1 3 v)) (k2 0 (.bool true))
  refine ⟨((((KeepsOthers.setCell W _ _).trans (KeepsOthers.setCell _ _ _)).trans (KeepsOthers.setCell _ _ _)).trans (KeepsOthers.setCell _ _ _)).trans (KeepsOthers.setCell _ _ _), K, ⟨rfl, (s3.far (p := ⟨H + 1 + 1, 0, Option.none⟩) hne _).eq (by simp), (u3.set_ 0 (.bool true)).eq (by simp), h.bel.trans K.bel, v4⟩⟩
theorem nthA_own {Bx : Nat} (h : NthA L W H k v Bx) (hg : W.grownBy W' row) (hr : ∀ r, row = some r → ∃ o : Obj, W.heap[r]? = some o ∧ o.isCells = false) : NthA L W' H k v Bx := ⟨blk_own h.b6 hg hr, h.far, vc_own h.vc hg hr⟩
end
set_option maxRecDepth 100000 in
set_option maxHeartbeats 4000000 in
theorem nth_in (g mb : Nat) (fv : Value) (m : Int → Option Value) (L : Dt) (i : Nat) (w : World) (h : IsDuct w g mb fv m L) (hi : i < L.n) : Calls Try.prog 38 #[.pointer (some ⟨g, 0, Option.none⟩), .int .i64 i] w (fun e w' => ∃ v, e = .returned (.tuple #[encC L i v, .bool true]) ∧ VC L w.heap.size i v w' ∧ Below w.heap.size w w') := by
  refine (callsIn_wide (n := 9)).1 ?_
  refine callsIn_of_wp_marks Try.func38 rfl trivial ?_ rfl
  simp only [Try.ntmps38, List.size_toArray, List.length_cons, List.length_nil, Nat.reduceAdd, Nat.reduceSub, Array.replicate_succ, Array.replicate_zero, List.push_toArray, List.append_toArray, List.nil_append, List.cons_append]
  refine wpIn_wide.2 ?_
  have H := Lib.hid h
  have h3 : ¬ (i : Int) < 0 := by omega
  have h2 : (i : Int) < (L.n : Int) := by omega
  have K := Lib.hid (fun (W : World) (hW : Below w.heap.size w W) => len_calls g mb fv m L W (H.out.below hW))
  have hln : L.n ≤ 1000000 := Nat.le_trans h.cnt h.len
  clear h
  go_upto_region 1 with fail
  refine wp_region_quiet_lit (by kernel_rfl) (by kernel_rfl) ?_
  repeat (go_big_quiet_step (exact (K.out _ (by first | exact below_drewN' ((((Below.refl _ w).alloc (Nat.le_refl _) _).alloc (by simp only [World.size_alloc]; omega) _).alloc (by simp only [World.size_alloc]; omega) _) _ | exact ((((Below.refl _ w).alloc (Nat.le_refl _) _).alloc (by simp only [World.size_alloc]; omega) _).alloc (by simp only [World.size_alloc]; omega) _).drew)).mono fun e w' ⟨a, b⟩ => ⟨a, _, b.symm⟩))
  refine wpQuiet_nil ?_
  rintro _ ⟨nq, rfl⟩
  have hW : ∃ W, W = (((w.alloc (.cells #[.int .i64 i] 3)).alloc (.cells #[.int .i64 0, .int .i64 0, .int .i64 0, .slice Option.none 0 0] 82)).alloc (.cells #[.bool false] 4)).drewN nq := ⟨_, rfl⟩
  obtain ⟨W, hW⟩ := hW
  have I0 : NthI w W w.heap.size 0 i := by
    have y1 := Blk.new (w.alloc (.cells #[.int .i64 i] 3)) 82 #[.int .i64 0, .int .i64 0, .int .i64 0, .slice Option.none 0 0]
    have y2 := Blk.new ((w.alloc (.cells #[.int .i64 i] 3)).alloc (.cells #[.int .i64 0, .int .i64 0, .int .i64 0, .slice Option.none 0 0] 82)) 4 #[.bool false]
    simp only [World.size_alloc] at y1 y2
    rw [hW]
    exact ⟨(((((Blk.new w 3 #[.int .i64 i]).alloc _).alloc _).drewN nq).eq (by simp)), (y1.alloc _).drewN nq, y2.drewN nq, below_drewN' ((((Below.refl _ w).alloc (Nat.le_refl _) _).alloc (by simp only [World.size_alloc]; omega) _).alloc (by simp only [World.size_alloc]; omega) _) nq, Nat.zero_le _, by simp [World.drewN]⟩
  have hsz : W.heap.size = w.heap.size + 3 := by rw [hW]; simp [World.drewN]
  rw [← hW]
  clear hW
  go_wp2_with fail
  refine (flying_calls g _).mono ?_
  rintro e w4 ⟨rfl, rfl⟩
  go_wp2
  have hB := Blk.new W 57 #[.pointer (some ⟨g, 0, Option.none⟩)]
  rw [hsz] at hB
  have bW : Below W.heap.size W (W.alloc (.cells #[.pointer (some ⟨g, 0, Option.none⟩)] 57)) := (Below.refl _ W).alloc (Nat.le_refl _) _
  have I1 : NthI w (W.alloc (.cells #[.pointer (some ⟨g, 0, Option.none⟩)] 57)) w.heap.size 0 i := ⟨I0.b3.alloc _, I0.b4.alloc _, I0.b5.alloc _, below_then I0.bel (by omega) bW, I0.le, Nat.le_trans I0.sz bW.size⟩
  have hs1 : (W.alloc (.cells #[.pointer (some ⟨g, 0, Option.none⟩)] 57)).heap.size = w.heap.size + 4 := by rw [World.size_alloc, hsz]
  revert hB I1 hs1
  generalize W.alloc (.cells #[.pointer (some ⟨g, 0, Option.none⟩)] 57) = w1
  intro hB I1 hs1
  clear bW hsz I0 W
  have hb1 := I1.bel
  generalize hHH : w.heap.size = n1 at *
  have HN := Lib.hid hHH
  clear hHH
  refine (wpIn_wide (n := 9)).1 ?_
  refine range_at (gf := 60) (lb := #[.pointer (some ⟨n1 + 3, 0, Option.none⟩)]) rfl (by omega) rfl trivial (enters_of Try.func60 (by kernel_rfl) rfl)
    (fly_at 8 (by omega) (wc := w) (w := w1) (n1 + 3) H.out (by rw [HN.out]; omega) (by rw [HN.out]; exact hb1) hB) kpF_t (kpF_b (by rw [HN.out]; omega)) ?hb0 (by rfl)
    (fun k W => NthI w W n1 k i) (fun c k W => match c with | .ret => ∃ v, NthX L w W n1 k i v | _ => False) (nthI_own (by rw [HN.out]; omega) (by rw [HN.out]; omega)) ?hIx I1
    (fun k v a' W => ∃ Bx, NthA L W n1 k v Bx ∧ a' = { tmps := #[.pointer (some ⟨g, 0, Option.none⟩), .int .i64 i, undef, .pointer (some ⟨n1, 0, Option.none⟩), .pointer (some ⟨n1 + 1, 0, Option.none⟩), .pointer (some ⟨n1 + 1 + 1, 0, Option.none⟩), .pointer (some ⟨Bx, 0, Option.none⟩), .int .i64 i, .bool false, .bool false, .int .i64 i, .pointer (some ⟨g, 0, Option.none⟩), .int .i64 L.n, .bool false, .bool false, undef, .pointer (some ⟨g, 0, Option.none⟩), .func (.func 60) #[] #[.pointer (some ⟨n1 + 3, 0, Option.none⟩)], encC L k v, undef, undef, undef, undef, undef, undef], defers := [] })
    (fun k v a' _ X Y row hs hg hr => by obtain ⟨Bx, h1, h2⟩ := hs; exact ⟨Bx, nthA_own h1 hg (fun r e => (hr r e).2), h2⟩) ?assign ?body ?done ?stop
  case hb0 => exact Below.refl _ _
  case hIx =>
    intro c
    cases c with
    | ret => exact nthX_own (by rw [HN.out]; omega) (by rw [HN.out]; omega)
    | _ => exact fun _ _ _ _ h _ _ => h
  case assign =>
    intro l k v W K hI hV hK
    rw [HN.out] at hV hK
    have hWs := hI.sz
    obtain ⟨vA, vn, vc, rfl⟩ := hV.slice
    simp only [encC] at hK ⊢
    gi_wp2
    have bW : Below W.heap.size W (W.alloc (.cells #[.int .i64 (idAt L k), .int .i64 (fateAt L k).of_, .int .i64 (fateAt L k).at_, .slice vA vn vc] 82)) := (Below.refl _ W).alloc (Nat.le_refl _) _
    exact hK _ _ ((KeepsOthers.alloc _ _).from _) (kpF_below (by omega) bW) (hI.below bW) ⟨W.heap.size, ⟨Blk.new W 82 _, by omega, hV.below bW⟩, rfl⟩
  case body =>
    rintro l k v a' W hl - hI ⟨Bx, hA, rfl⟩ hlt
    rw [HN.out]
    have HI := Lib.hid hI
    have HA := Lib.hid hA
    obtain ⟨vA, vn, vc, rfl⟩ := hA.vc.slice
    have hle := hI.le
    simp only [encC]
    have c3 := hI.b3.cell 0
    have f3 := hI.b3.frozen
    simp at c3
    by_cases hk : k = i
    · have e0 : i - k = 0 := by omega
      rw [e0] at c3
      have x0 := hA.b6.cell 0
      have x1 := hA.b6.cell 1
      have x2 := hA.b6.cell 2
      have x3 := hA.b6.cell 3
      have y0 := hI.b4.cell 0
      have y1 := hI.b4.cell 1
      have y2 := hI.b4.cell 2
      have y3 := hI.b4.cell 3
      have yf := hI.b4.frozen
      have z0 := hI.b5.cell 0
      have zf := hI.b5.frozen
      simp at x0 x1 x2 x3 y0 y1 y2 y3 z0
      clear hI hA
      gi_wp2
      have E := nth_found HI.out HA.out hk
      exact ⟨E.1.from _, E.2.1, _, E.2.2⟩
    · have e0 : ∃ r : Nat, i - k = r + 1 ∧ i - (k + 1) = r := ⟨i - k - 1, by omega, by omega⟩
      obtain ⟨r, e0, e1⟩ := e0
      rw [e0] at c3
      clear hI hA
      gi_wp2
      have E := nth_next HI.out (by omega) e1
      exact ⟨E.1.from _, E.2.1, E.2.2⟩
  case done =>
    intro D W hD hI hK
    exact absurd hI.le (by omega)
  case stop =>
    intro D c k W hD hlt hx hK
    cases c with
    | ret =>
      obtain ⟨v, X⟩ := hx
      obtain ⟨vA, vn, vc, rfl⟩ := X.vc.slice
      have HX := Lib.hid X
      have HK := Lib.hid hK
      clear X hK
      gi_wp2
      refine ⟨by simp, .inl ⟨_, _, rfl, run_takeDeferred HK.out, ?_⟩⟩
      have q4 := blk_own HX.out.b4 (grownBy_putObj' _ D (.deferred Option.none)) (fun r e => by cases e; exact ⟨_, HK.out, rfl⟩)
      have q5 := blk_own HX.out.b5 (grownBy_putObj' _ D (.deferred Option.none)) (fun r e => by cases e; exact ⟨_, HK.out, rfl⟩)
      have qv := vc_own HX.out.vc (grownBy_putObj' _ D (.deferred Option.none)) (fun r e => by cases e; exact ⟨_, HK.out, rfl⟩)
      have z0 := q4.cell 0
      have z1 := q4.cell 1
      have z2 := q4.cell 2
      have z3 := q4.cell 3
      have z5 := q5.cell 0
      simp at z0 z1 z2 z3 z5
      exact ⟨.tuple #[encC L i (.slice vA vn vc), .bool true], by simp [results, Try.results38, go_sem, z0, z1, z2, z3, z5, encC], _, rfl, by rw [HN.out]; exact qv, by rw [HN.out]; exact HX.out.bel.trans (belowK_b (w := w1) (by omega) W D _ _ hD HK.out rfl rfl)⟩
    | _ => exact hx.elim
end Go.Proofs.Ytiphkgkhfomcaaa.Duct
