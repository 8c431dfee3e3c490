/- Chapter 25 (duct): equal: is a duct the document's: what holds in its rounds. -/
import Derived.Test.YtiphkgkhfomcaaaDuctNth3
import Derived.Test.YtiphkgkhfomcaaaDuctDoesC
import Derived.Test.YtiphkgkhfomcaaaRegrown
import Derived.Test.YtiphkgkhfomcaaaDuctRange2
set_option linter.unusedSimpArgs false
set_option linter.unusedVariables false
attribute [local go_sem ↓] Go.wp_at_zero Go.wp_at_succ
namespace Go.Proofs.Ytiphkgkhfomcaaa.Duct
open Go.BigFrame Go.RowKit Go.OpenShut Go.Shelf Go.Proofs.Ytiphkgkhfomcaaa.Aid Go.Proofs.Ytiphkgkhfomcaaa.DMap Go.Proofs.Ytiphkgkhfomcaaa.Byt Go.Proofs.Ytiphkgkhfomcaaa.Told
attribute [local go_sem] Oper.semAt_some
/-- The boxes at equal's door. -/
structure EqS (w W : World) (H g : Nat) (la : Int) (v : Value) : Prop where
  b2 : Blk W H 57 #[.pointer (some ⟨g, 0, Option.none⟩)]
  b3 : Blk W (H + 1) 76 #[.int .i64 la, v]
  b4 : Blk W (H + 1 + 1) 4 #[.bool false]
  bel : Below H w W
  sz : H + 3 ≤ W.heap.size
theorem EqS.below {w W W' : World} {H g : Nat} {la : Int} {v : Value} (h : EqS w W H g la v) (hb : Below W.heap.size W W') : EqS w W' H g la v :=
  ⟨h.b2.below hb h.b2.lt, h.b3.below hb h.b3.lt, h.b4.below hb h.b4.lt, h.bel.trans (hb.mono (by have := h.sz; omega)), Nat.le_trans h.sz hb.size⟩
theorem eqS_new (w : World) (g : Nat) (la : Int) (v : Value) : EqS w (((w.alloc (.cells #[.pointer (some ⟨g, 0, Option.none⟩)] 57)).alloc (.cells #[.int .i64 la, v] 76)).alloc (.cells #[.bool false] 4)) w.heap.size g la v := by
  have y1 := Blk.new (w.alloc (.cells #[.pointer (some ⟨g, 0, Option.none⟩)] 57)) 76 #[.int .i64 la, v]
  have y2 := Blk.new ((w.alloc (.cells #[.pointer (some ⟨g, 0, Option.none⟩)] 57)).alloc (.cells #[.int .i64 la, v] 76)) 4 #[.bool false]
  simp only [World.size_alloc] at y1 y2
  exact ⟨((Blk.new w 57 _).alloc _).alloc _, y1.alloc _, y2, (((Below.refl _ w).alloc (Nat.le_refl _) _).alloc (by simp only [World.size_alloc]; omega) _).alloc (by simp only [World.size_alloc]; omega) _, by simp⟩
theorem cp_at {w : World} {b : Nat} {cs : List Cp} (h : Reps w (some ⟨b, 0, Option.none⟩) 5 encP cs) {k : Nat} {c : Cp} (hk : cs[k]? = some c) : w.cell? ⟨b, k * 5, Option.none⟩ = some (.int .i64 c.f.of_) ∧ w.cell? ⟨b, k * 5 + 1, Option.none⟩ = some (.int .i64 c.f.at_) ∧
    w.cell? ⟨b, k * 5 + 2, Option.none⟩ = some (.int .i64 c.f.en) ∧ w.cell? ⟨b, k * 5 + 3, Option.none⟩ = some (.int .i64 c.f.kind) ∧ w.cell? ⟨b, k * 5 + 4, Option.none⟩ = some c.v := by
  obtain ⟨ad, ea, _, f0, f1, f2, f3, f4⟩ := cp_cells h hk
  obtain rfl : (⟨b, 0, Option.none⟩ : Addr) = ad := Option.some.inj ea
  simp only [add0] at f0 f1 f2 f3 f4
  exact ⟨f0, f1, f2, f3, f4⟩
/-- How it stands ahead of round k of the range. -/
structure EqI (w W : World) (H G g : Nat) (la : Int) (v : Value) (k : Nat) : Prop where
  s : EqS w W H g la v
  bn : Blk W G 3 #[.int .i64 k]
  far : H + 3 ≤ G
theorem EqI.below {w W W' : World} {H G g k : Nat} {la : Int} {v : Value} (h : EqI w W H G g la v k) (hb : Below W.heap.size W W') : EqI w W' H G g la v k := ⟨h.s.below hb, h.bn.below hb h.bn.lt, h.far⟩
theorem eqI_own {w : World} {H G g B : Nat} {la : Int} {v : Value} (hs : H ≤ w.heap.size) (hB : w.heap.size ≤ B) : OwnFrom B (fun k W => EqI w W H G g la v k) := fun k X Y row h hg hr =>
  have hr' : ∀ r, row = some r → ∃ o : Obj, X.heap[r]? = some o ∧ o.isCells = false := fun r e => (hr r e).2
  ⟨⟨blk_own h.s.b2 hg hr', blk_own h.s.b3 hg hr', blk_own h.s.b4 hg hr', bel_own h.s.bel hs hB hg (fun r e => (hr r e).1), Nat.le_trans h.s.sz hg.size⟩, blk_own h.bn hg hr', h.far⟩
theorem eqI_next {w W : World} {H G g k : Nat} {la : Int} {v : Value} (h : EqI w W H G g la v k) : KeepsOthers W (W.setCell ⟨G, 0, Option.none⟩ (.int .i64 (k + 1 : Nat))) ∧ KpF H (G + 1) W (W.setCell ⟨G, 0, Option.none⟩ (.int .i64 (k + 1 : Nat))) ∧ EqI w (W.setCell ⟨G, 0, Option.none⟩ (.int .i64 (k + 1 : Nat))) H G g la v (k + 1) := by
  have f := h.far
  exact ⟨KeepsOthers.setCell _ _ _, kpF_set (p := ⟨G, 0, Option.none⟩) (B := G + 1) (by show H ≤ G; omega) (by show G < G + 1; omega) _,
    ⟨⟨h.s.b2.far (p := ⟨G, 0, Option.none⟩) (show H ≠ G by omega) _, h.s.b3.far (p := ⟨G, 0, Option.none⟩) (show H + 1 ≠ G by omega) _, h.s.b4.far (p := ⟨G, 0, Option.none⟩) (show H + 1 + 1 ≠ G by omega) _, h.s.bel.setCell (p := ⟨G, 0, Option.none⟩) (by show H ≤ G; omega) _, by simpa [World.setCell] using h.s.sz⟩, (h.bn.set_ 0 _).eq (by simp), h.far⟩⟩
theorem others_below {W W' : World} (hb : Below W.heap.size W W') : KeepsOthers W W' := ⟨hb.size, fun k o hk _ => (hb.block k (Array.getElem?_eq_some_iff.1 hk).1).trans hk⟩
/-- What is told of the k-th piece. -/
theorem eq_piece {w0 W : World} {L : Dt} {cs : List Cp} {H k : Nat} {v : Value} (hA : Agree w0 L cs) (hV : VC L H k v W) : ∃ (kk : Nat) (c : Cp) (xs : List Int), idAt L k = kk ∧ fateAt L k = c.f ∧ cs[kk]? = some c ∧ Byt.Src w0 c.v xs ∧ RowOf 5 1 encB W v xs ∧ xs.length ≤ 2096 ∧ L.raws (idAt L k) = some xs := by
  obtain ⟨xs, y1, y2, y3, y4⟩ := hV
  obtain ⟨kk, c, hid, hc, hz, hen, hof, hsrc, hg⟩ := hA.at_ y1
  exact ⟨kk, c, xs, hid, by simp only [fateAt, hid, Int.toNat_natCast, hg], hc, hsrc, y3, y2, y1⟩
theorem nth_at {w0 w : World} {g mb : Nat} {fv : Value} {m : Int → Option Value} {L : Dt} {k kk : Nat} {c : Cp} {xs : List Int} (h : IsDuct w g mb fv m L) (hk : k < L.n) (h1 : idAt L k = kk) (h2 : fateAt L k = c.f) (h3 : L.raws (idAt L k) = some xs) :
    Calls Try.prog 38 #[.pointer (some ⟨g, 0, Option.none⟩), .int .i64 k] w (fun e w' => ∃ v, e = .returned (.tuple #[.agg #[.int .i64 kk, .int .i64 c.f.of_, .int .i64 c.f.at_, v], .bool true]) ∧ RowOf 5 1 encB w' v xs ∧ Below w.heap.size w w') :=
  (nth_in g mb fv m L k w h hk).mono fun e w' ⟨v, he, ⟨ys, q1, _, q2, _⟩, hb⟩ => by
    rw [encC, h1, h2] at he
    rw [h3] at q1
    obtain rfl := Option.some.inj q1
    exact ⟨v, he, q2, hb⟩
/-- Bytes of one's own and whatever bytes are the same. -/
theorem same_row {W : World} {r v : Value} {xs : List Int} (hv : RowOf 5 1 encB W v xs) (hs : Byt.Src W r xs) (hl : xs.length ≤ 2096) : Calls Try.prog 31 #[v, r] W (Gives W (.bool true)) := by
  obtain ⟨A, c, rfl, hR, _⟩ := hs.is
  obtain ⟨B, d, rfl, _, hQ⟩ := hv.reps encB_len
  exact same_n B A d c xs.length xs.length xs W hQ hR rfl rfl (by omega)
/-- Within a round. -/
structure EqP (w W0 W : World) (H G g : Nat) (la : Int) (v : Value) (k Bx : Nat) (cells : Array Value) (u : Value) (xs : List Int) : Prop where
  i : EqI w W H G g la v k
  x : Blk W Bx 82 cells
  row : RowOf 5 1 encB W u xs
  b : Below W0.heap.size W0 W
theorem EqP.below {w W0 W W' : World} {H G g k Bx : Nat} {la : Int} {v u : Value} {cells : Array Value} {xs : List Int} (h : EqP w W0 W H G g la v k Bx cells u xs) (hb : Below W.heap.size W W') : EqP w W0 W' H G g la v k Bx cells u xs := ⟨h.i.below hb, h.x.below hb h.x.lt, h.row.below hb, below_then h.b h.b.size hb⟩
theorem eq_round_end {w W0 W : World} {H G g k Bx B : Nat} {la : Int} {v u : Value} {cells : Array Value} {xs : List Int} {Ix : Code → Nat → World → Prop} {a : Act} (h : EqP w W0 W H G g la v k Bx cells u xs) (hs : H ≤ W0.heap.size) : Post B (KpF H (G + 1)) (fun k W => EqI w W H G g la v k) Ix k W0 .normal a (W.setCell ⟨G, 0, Option.none⟩ (.int .i64 (k + 1 : Nat))) :=
  have E := eqI_next h.i
  ⟨((others_below h.b).trans E.1).from _, kpF_t (kpF_below hs h.b) E.2.1, E.2.2⟩
attribute [local go_sem high] eq_fates
set_option maxRecDepth 100000 in
set_option maxHeartbeats 4000000 in
theorem equal_calls (g mb : Nat) (fv : Value) (m : Int → Option Value) (L : Dt) (cs : List Cp) (v : Value) (w0 w : World) (hS : St w0 w g mb fv m L) (hr : RowOf 124 5 encP w v cs) (hA : Agree w0 L cs) (hl : L.fates.length < 1000000) :
    Calls Try.prog 36 #[.pointer (some ⟨g, 0, Option.none⟩), refD L.last v] w (Gives w (.bool true)) := by
  refine (callsIn_wide (n := 9)).1 ?_
  refine callsIn_of_wp_marks Try.func36 rfl trivial ?_ rfl
  simp only [Try.ntmps36, List.size_toArray, List.length_cons, List.length_nil, Nat.reduceAdd, Nat.reduceSub, Array.replicate_succ, Array.replicate_zero, List.push_toArray, List.append_toArray, List.nil_append, List.cons_append]
  refine wpIn_wide.2 ?_
  have HS := Lib.hid hS
  have HR := Lib.hid hr
  have HA := Lib.hid hA
  obtain ⟨Av, cv, hv, _, hR⟩ := hr.reps encP_len
  subst hv
  have HRep := Lib.hid hR
  have hcl := hA.len
  have hlp := hA.lenP
  clear hS hr hA hR
  obtain ⟨N, hN⟩ : ∃ N, cs.length = N := ⟨_, rfl⟩
  have HN := Lib.hid hN
  rw [hN] at hcl ⊢
  have HF := Lib.hid hcl
  have HLP := Lib.hid hlp
  have hN6 : N < 1000000 := by rw [hcl]; exact hl
  clear hN hcl hlp hl
  have E0 := Lib.hid (eqS_new w g L.last (.slice Av N cv))
  go_upto_region 1 with fail
  revert E0
  generalize ((w.alloc (.cells #[.pointer (some ⟨g, 0, Option.none⟩)] 57)).alloc (.cells #[.int .i64 L.last, .slice Av N cv] 76)).alloc (.cells #[.bool false] 4) = w1
  intro E0
  have HB := Lib.hid (Eq.refl w.heap.size)
  have K32 := Lib.hid (fun d os => regrown_same (len_calls g mb fv m L (Go.Sort.grow (redrawn w1 d) os) (HS.out.d.below (E0.out.bel.trans ((below_regrown w1 d os).mono (by have := E0.out.sz; omega))))))
  have K33 := Lib.hid (fun d os => regrown_same (total_calls g mb fv m L (Go.Sort.grow (redrawn w1 d) os) (HS.out.d.below (E0.out.bel.trans ((below_regrown w1 d os).mono (by have := E0.out.sz; omega))))))
  have K56 := Lib.hid (fun d os => Calls.regrown_of (rlen_calls L.last Av cv cs (Go.Sort.grow (redrawn w1 d) os) (HRep.out.below (E0.out.bel.trans ((below_regrown w1 d os).mono (by have := E0.out.sz; omega)))) (by rw [HN.out]; omega)))
  rw [HLP.out, HN.out] at K56
  have e2 : ∀ d os, (Go.Sort.grow (redrawn w1 d) os).cell? ⟨w.heap.size, 0, Option.none⟩ = some (.pointer (some ⟨g, 0, Option.none⟩)) := fun d os => (E0.out.b2.regrown d os).cell 0
  have e30 : ∀ d os, (Go.Sort.grow (redrawn w1 d) os).cell? ⟨w.heap.size + 1, 0, Option.none⟩ = some (.int .i64 L.last) := fun d os => (E0.out.b3.regrown d os).cell 0
  have e31 : ∀ d os, (Go.Sort.grow (redrawn w1 d) os).cell? ⟨w.heap.size + 1, 1, Option.none⟩ = some (.slice Av N cv) := fun d os => (E0.out.b3.regrown d os).cell 1
  rw [← HF.out] at K33
  refine wp_region_quiet_below (by kernel_rfl) (by kernel_rfl) ?_
  repeat (go_big_quiet_step (first | with_reducible exact K32.out _ _ | with_reducible exact K33.out _ _ | with_reducible exact K56.out _ _))
  refine wpQuiet_nil ?_
  rintro _ ⟨⟨nq, osq⟩, rfl⟩
  have E1 := Lib.hid (E0.out.below (below_regrown w1 nq osq))
  clear E0 K32 K33 K56 e2 e30 e31
  revert E1
  generalize Go.Sort.grow (redrawn w1 nq) osq = w2
  intro E1
  clear w1 nq osq
  go_wp2
  go_loopw [5] (fun iv wr => ∃ i : Int, -1 ≤ i ∧ i ≤ N + 1 ∧ iv = .int .i64 i ∧ Hid (EqS w wr w.heap.size g L.last (.slice Av N cv))) (fun iv _ => (N + 1 - intOf iv).toNat)
  case atStart => exact ⟨-1, by omega, by omega, rfl, E1⟩
  case round =>
    obtain ⟨i, hi0, hi1, rfl, hW⟩ := hrel
    clear E1
    have c2 := hW.out.b2.cell 0
    have c31 := hW.out.b3.cell 1
    simp at c2 c31
    by_cases hle : i ≤ N
    · by_cases hin : 0 ≤ i ∧ i < N
      · obtain ⟨k, rfl⟩ : ∃ k : Nat, i = k := ⟨i.toNat, by omega⟩
        have hk : k < N := by omega
        obtain ⟨c, hkc⟩ : ∃ c, cs[k]? = some c := ⟨_, List.getElem?_eq_getElem (by rw [HN.out]; exact hk)⟩
        have hg : L.fates.getD k default = c.f := by rw [← HA.out.fs, List.getD_eq_getElem?_getD, List.getElem?_map, hkc]; rfl
        have KF := Lib.hid (fate_in g mb fv m L k wr (HS.out.d.below (hW.out.bel)) (by rw [← HF.out]; exact hk))
        rw [hg] at KF
        obtain ⟨b, rfl⟩ : ∃ b, Av = some ⟨b, 0, Option.none⟩ := by
          obtain ⟨_, h0⟩ | ⟨b, cap, cur, h0, _⟩ := HR.out
          · have := HN.out; rw [h0] at this; simp at this; omega
          · injection h0 with h0; exact ⟨b, h0⟩
        have Q := Lib.hid (fun (W : World) (hb : Below w.heap.size w W) => cp_at (HRep.out.below hb) hkc)
        have q0 : (0 : Int) ≤ (k : Int) := by omega
        have q1 : (k : Int) < (N : Int) := by omega
        have q6 : (k : Int) < 1000000 := by omega
        obtain ⟨⟨f0, f1, f2, f3⟩, cA, cn, cc⟩ := c
        simp only at Q KF
        clear hg hkc hin hi0
        go_wp2_with fail
        refine KF.out.mono ?_
        rintro e w3 ⟨rfl, b3⟩
        have E3 := Lib.hid (hW.out.below b3)
        clear b3 KF c2 c31 hW
        simp only [fateV]
        go_upto_region 7 with fail
        have E4 := Lib.hid (E3.out.below ((Below.refl _ w3).alloc (Nat.le_refl _) (.cells #[.int .i64 f0, .int .i64 f1, .int .i64 f2, .int .i64 f3] 65)))
        have X4 := Lib.hid (Blk.new w3 65 #[.int .i64 f0, .int .i64 f1, .int .i64 f2, .int .i64 f3])
        revert E4 X4
        generalize w3.alloc (.cells #[.int .i64 f0, .int .i64 f1, .int .i64 f2, .int .i64 f3] 65) = w4
        generalize w3.heap.size = X
        intro E4 X4
        clear E3
        have e31 : ∀ d os, (Go.Sort.grow (redrawn w4 d) os).cell? ⟨w.heap.size + 1, 1, Option.none⟩ = some (.slice (some ⟨b, 0, Option.none⟩) N cv) := fun d os => (E4.out.b3.regrown d os).cell 1
        have x0 : ∀ d os, (Go.Sort.grow (redrawn w4 d) os).cell? ⟨X, 0, Option.none⟩ = _ := fun d os => (X4.out.regrown d os).cell 0
        have x1 : ∀ d os, (Go.Sort.grow (redrawn w4 d) os).cell? ⟨X, 1, Option.none⟩ = _ := fun d os => (X4.out.regrown d os).cell 1
        have x2 : ∀ d os, (Go.Sort.grow (redrawn w4 d) os).cell? ⟨X, 2, Option.none⟩ = _ := fun d os => (X4.out.regrown d os).cell 2
        have x3 : ∀ d os, (Go.Sort.grow (redrawn w4 d) os).cell? ⟨X, 3, Option.none⟩ = _ := fun d os => (X4.out.regrown d os).cell 3
        simp only [List.getElem?_toArray, List.getElem?_cons_zero, List.getElem?_cons_succ] at x0 x1 x2 x3
        have p0 : ∀ d os, (Go.Sort.grow (redrawn w4 d) os).cell? ⟨b, k * 5, Option.none⟩ = some (.int .i64 f0) := fun d os => (Q.out _ (E4.out.below (below_regrown w4 d os)).bel).1
        have p1 : ∀ d os, (Go.Sort.grow (redrawn w4 d) os).cell? ⟨b, k * 5 + 1, Option.none⟩ = some (.int .i64 f1) := fun d os => (Q.out _ (E4.out.below (below_regrown w4 d os)).bel).2.1
        have p2 : ∀ d os, (Go.Sort.grow (redrawn w4 d) os).cell? ⟨b, k * 5 + 2, Option.none⟩ = some (.int .i64 f2) := fun d os => (Q.out _ (E4.out.below (below_regrown w4 d os)).bel).2.2.1
        have p3 : ∀ d os, (Go.Sort.grow (redrawn w4 d) os).cell? ⟨b, k * 5 + 3, Option.none⟩ = some (.int .i64 f3) := fun d os => (Q.out _ (E4.out.below (below_regrown w4 d os)).bel).2.2.2.1
        have p4 : ∀ d os, (Go.Sort.grow (redrawn w4 d) os).cell? ((⟨b, 0, Option.none⟩ : Addr).add (k * 5)) = some (.int .i64 f0) := fun d os => by rw [add0]; exact p0 d os
        refine wp_region_quiet_below (by kernel_rfl) (by kernel_rfl) ?_
        repeat (go_big_quiet_step (fail))
        refine wpQuiet_nil ?_
        rintro _ ⟨⟨nq, osq⟩, rfl⟩
        have E5 := Lib.hid (E4.out.below (below_regrown w4 nq osq))
        clear E4 X4 e31 x0 x1 x2 x3
        revert E5
        generalize Go.Sort.grow (redrawn w4 nq) osq = w5
        intro E5
        go_wp2
        go_roundw
        case rel => exact ⟨(k : Int) + 1, by omega, by omega, by go_num, E5⟩
        case measure => first | (simp [intOf]; omega) | (simp [intOf]; done)
      · have KF := Lib.hid (fate_out g mb fv m L i wr (HS.out.d.below (hW.out.bel)) (by rw [← HF.out]; omega))
        obtain rfl | rfl : i = -1 ∨ i = N := by omega
        rotate_left
        · have q0 : (0 : Int) ≤ (N : Int) := by omega
          have q6 : (N : Int) < 1000000 := by omega
          clear hin hi0
          go_wp2_with fail
          refine KF.out.mono ?_
          rintro e w3 ⟨rfl, b3⟩
          have E3 := Lib.hid (hW.out.below b3)
          clear b3 KF c2 c31 hW
          simp only [fateV]
          go_upto_region 7 with fail
          have E4 := Lib.hid (E3.out.below ((Below.refl _ w3).alloc (Nat.le_refl _) (.cells #[.int .i64 0, .int .i64 0, .int .i64 0, .int .i64 0] 65)))
          have X4 := Lib.hid (Blk.new w3 65 #[.int .i64 0, .int .i64 0, .int .i64 0, .int .i64 0])
          revert E4 X4
          generalize w3.alloc (.cells #[.int .i64 0, .int .i64 0, .int .i64 0, .int .i64 0] 65) = w4
          generalize w3.heap.size = X
          intro E4 X4
          clear E3
          have e31 : ∀ d os, (Go.Sort.grow (redrawn w4 d) os).cell? ⟨w.heap.size + 1, 1, Option.none⟩ = some (.slice Av N cv) := fun d os => (E4.out.b3.regrown d os).cell 1
          have x0 : ∀ d os, (Go.Sort.grow (redrawn w4 d) os).cell? ⟨X, 0, Option.none⟩ = _ := fun d os => (X4.out.regrown d os).cell 0
          have x1 : ∀ d os, (Go.Sort.grow (redrawn w4 d) os).cell? ⟨X, 1, Option.none⟩ = _ := fun d os => (X4.out.regrown d os).cell 1
          have x2 : ∀ d os, (Go.Sort.grow (redrawn w4 d) os).cell? ⟨X, 2, Option.none⟩ = _ := fun d os => (X4.out.regrown d os).cell 2
          have x3 : ∀ d os, (Go.Sort.grow (redrawn w4 d) os).cell? ⟨X, 3, Option.none⟩ = _ := fun d os => (X4.out.regrown d os).cell 3
          simp only [List.getElem?_toArray, List.getElem?_cons_zero, List.getElem?_cons_succ] at x0 x1 x2 x3
          refine wp_region_quiet_below (by kernel_rfl) (by kernel_rfl) ?_
          repeat (go_big_quiet_step (fail))
          refine wpQuiet_nil ?_
          rintro _ ⟨⟨nq, osq⟩, rfl⟩
          have E5 := Lib.hid (E4.out.below (below_regrown w4 nq osq))
          clear E4 X4 e31 x0 x1 x2 x3
          revert E5
          generalize Go.Sort.grow (redrawn w4 nq) osq = w5
          intro E5
          go_wp2
          go_roundw
          case rel => exact ⟨(N : Int) + 1, by omega, by omega, by go_num, E5⟩
          case measure => first | (simp [intOf]; omega) | (simp [intOf]; done)
        · clear hin
          go_wp2_with fail
          refine KF.out.mono ?_
          rintro e w3 ⟨rfl, b3⟩
          have E3 := Lib.hid (hW.out.below b3)
          clear b3 KF c2 c31 hW
          simp only [fateV]
          go_upto_region 7 with fail
          have E4 := Lib.hid (E3.out.below ((Below.refl _ w3).alloc (Nat.le_refl _) (.cells #[.int .i64 0, .int .i64 0, .int .i64 0, .int .i64 0] 65)))
          have X4 := Lib.hid (Blk.new w3 65 #[.int .i64 0, .int .i64 0, .int .i64 0, .int .i64 0])
          revert E4 X4
          generalize w3.alloc (.cells #[.int .i64 0, .int .i64 0, .int .i64 0, .int .i64 0] 65) = w4
          generalize w3.heap.size = X
          intro E4 X4
          clear E3
          have e31 : ∀ d os, (Go.Sort.grow (redrawn w4 d) os).cell? ⟨w.heap.size + 1, 1, Option.none⟩ = some (.slice Av N cv) := fun d os => (E4.out.b3.regrown d os).cell 1
          have x0 : ∀ d os, (Go.Sort.grow (redrawn w4 d) os).cell? ⟨X, 0, Option.none⟩ = _ := fun d os => (X4.out.regrown d os).cell 0
          have x1 : ∀ d os, (Go.Sort.grow (redrawn w4 d) os).cell? ⟨X, 1, Option.none⟩ = _ := fun d os => (X4.out.regrown d os).cell 1
          have x2 : ∀ d os, (Go.Sort.grow (redrawn w4 d) os).cell? ⟨X, 2, Option.none⟩ = _ := fun d os => (X4.out.regrown d os).cell 2
          have x3 : ∀ d os, (Go.Sort.grow (redrawn w4 d) os).cell? ⟨X, 3, Option.none⟩ = _ := fun d os => (X4.out.regrown d os).cell 3
          simp only [List.getElem?_toArray, List.getElem?_cons_zero, List.getElem?_cons_succ] at x0 x1 x2 x3
          refine wp_region_quiet_below (by kernel_rfl) (by kernel_rfl) ?_
          repeat (go_big_quiet_step (fail))
          refine wpQuiet_nil ?_
          rintro _ ⟨⟨nq, osq⟩, rfl⟩
          have E5 := Lib.hid (E4.out.below (below_regrown w4 nq osq))
          clear E4 X4 e31 x0 x1 x2 x3
          revert E5
          generalize Go.Sort.grow (redrawn w4 nq) osq = w5
          intro E5
          go_wp2
          go_roundw
          case rel => exact ⟨0, by omega, by omega, by go_num, E5⟩
          case measure => first | (simp [intOf]; omega) | (simp [intOf]; done)
    · obtain rfl : i = N + 1 := by omega
      have hnl : ¬ ((N : Int) + 1 ≤ N) := by omega
      go_upto_region 10 with fail
      have I0 : EqI w (wr.alloc (.cells #[.int .i64 0] 3)) w.heap.size wr.heap.size g L.last (.slice Av N cv) 0 := ⟨hW.out.below ((Below.refl _ wr).alloc (Nat.le_refl _) _), (Blk.new wr 3 _).eq (by simp), hW.out.sz⟩
      have hs0 : (wr.alloc (.cells #[.int .i64 0] 3)).heap.size = wr.heap.size + 1 := World.size_alloc _ _
      clear c2 c31 hW
      revert I0 hs0
      generalize wr.alloc (.cells #[.int .i64 0] 3) = w3
      generalize wr.heap.size = G
      intro I0 hs0
      have c2 := I0.s.b2.cell 0
      simp at c2
      have hI0 := Lib.hid I0
      clear I0
      go_wp2_with fail
      refine (flying_calls g _).mono ?_
      rintro e w4 ⟨rfl, rfl⟩
      go_wp2
      have hB := Blk.new w3 57 #[.pointer (some ⟨g, 0, Option.none⟩)]
      have I1 := hI0.out.below ((Below.refl _ w3).alloc (Nat.le_refl _) (.cells #[.pointer (some ⟨g, 0, Option.none⟩)] 57))
      have hs1 : (w3.alloc (.cells #[.pointer (some ⟨g, 0, Option.none⟩)] 57)).heap.size = G + 1 + 1 := by rw [World.size_alloc, hs0]
      rw [hs0] at hB
      clear c2 hI0 hs0 w2 wr
      revert hB I1 hs1
      generalize w3.alloc (.cells #[.pointer (some ⟨g, 0, Option.none⟩)] 57) = w1
      intro hB I1 hs1
      clear w3
      have hb1 := I1.s.bel
      have hf1 := I1.far
      have HI1 := Lib.hid (And.intro I1 hB)
      clear I1 hB
      refine (wpIn_wide (n := 9)).1 ?_
      refine range_box 9 (gf := 60) (lb := #[.pointer (some ⟨G + 1, 0, Option.none⟩)]) rfl (by omega) rfl trivial (enters_of Try.func60 (by kernel_rfl) rfl)
        (fly_at 8 (by omega) (wc := w) (w := w1) (G + 1) HS.out.d (by omega) hb1 HI1.out.2) kpF_t (kpF_b (by omega)) (Below.refl _ _) (by rfl)
        (fun k W => EqI w W w.heap.size G g L.last (.slice Av N cv) k) (fun _ _ _ => False) (eqI_own (by omega) (by omega)) (fun _ _ _ _ _ h _ _ => h) HI1.out.1
        (fun k v Bx W => Blk W Bx 82 #[.int .i64 (idAt L k), .int .i64 (fateAt L k).of_, .int .i64 (fateAt L k).at_, v] ∧ VC L w.heap.size k v W ∧ G + 1 ≤ Bx)
        (fun k v Bx _ X Y row h hg hr => ⟨blk_own h.1 hg (fun r e => (hr r e).2), vc_own h.2.1 hg (fun r e => (hr r e).2), h.2.2⟩) ?assign ?body ?done ?stop
      case assign =>
        intro l k v W K hI hV hK
        have hWs := hI.bn.lt
        obtain ⟨vA, vn, vc, rfl⟩ := hV.slice
        have bW : Below W.heap.size W (W.alloc (.cells #[.int .i64 (idAt L k), .int .i64 (fateAt L k).of_, .int .i64 (fateAt L k).at_, .slice vA vn vc] 82)) := (Below.refl _ W).alloc (Nat.le_refl _) _
        have hKK := hK W.heap.size _ ((KeepsOthers.alloc W _).from _) (kpF_below (by have := hI.far; omega) bW) (hI.below bW) ⟨Blk.new W 82 _, hV.below bW, hWs⟩
        simp [boxed, encC] at hKK
        simp only [encC]
        have HK := Lib.hid hKK
        clear hKK hK bW hV hI
        gi_wp2
        exact HK.out
      case body =>
        intro l k v Bx W hI ⟨hX, hV, hBx⟩ hlt
        obtain ⟨kk, c, xs, hid, hfa, hc, hsrc, hrow, hxl, hraw⟩ := eq_piece HA.out hV
        have hkk : kk < N := by have := (List.getElem?_eq_some_iff.1 hc).1; rw [HN.out] at this; exact this
        have hkN : k < N := by have := HS.out.d.cnt; rw [HF.out]; omega
        have K57 := Lib.hid (fun (W' : World) (hb : Below W.heap.size W W') => rnth_calls L.last k Av cv cs W' (HRep.out.below (hI.s.bel.trans (hb.mono (by have := hI.s.sz; omega)))) (by rw [HN.out]; omega) (by omega))
        rw [HA.out.nth_in hlt, hid, HN.out] at K57
        have K38 := Lib.hid (fun (W' : World) (hb : Below W.heap.size W W') => nth_at (w0 := w0) (HS.out.d.below (hI.s.bel.trans (hb.mono (by have := hI.s.sz; omega)))) hlt hid hfa hraw)
        obtain ⟨b, rfl⟩ : ∃ b, Av = some ⟨b, 0, Option.none⟩ := by
          obtain ⟨_, h0⟩ | ⟨b, cap, cur, h0, _⟩ := HR.out
          · have := HN.out; rw [h0] at this; simp at this; omega
          · injection h0 with h0; exact ⟨b, h0⟩
        have Q := Lib.hid (fun (W : World) (hb : Below w.heap.size w W) => cp_at (HRep.out.below hb) hc)
        obtain ⟨vA, vc, rfl, _⟩ := hrow.slice
        have hcn : ∃ rA rc, c.v = .slice rA xs.length rc := by
          obtain ⟨A, cc, e, _⟩ := hsrc.is
          exact ⟨A, cc, e⟩
        obtain ⟨rA, rc, hcv⟩ := hcn
        rw [hcv] at Q hsrc
        generalize c.f = f at *
        obtain ⟨f0, f1, f2, f3⟩ := f
        rw [hid, hfa] at hX
        simp only at K38 Q hX
        have hw0 := HS.out.bel
        have P := Lib.hid (show EqP w W W w.heap.size G g L.last (.slice (some ⟨b, 0, Option.none⟩) N cv) k Bx _ _ _ from ⟨hI, hX, hrow, Below.refl _ _⟩)
        have SR := Lib.hid (And.intro hsrc hxl)
        have hHW : w.heap.size ≤ W.heap.size := by have := hI.s.sz; omega
        have q0 : (0 : Int) ≤ (kk : Int) := by omega
        have q1 : (kk : Int) < (N : Int) := by omega
        have q2 : (k : Int) < 1000000 := by omega
        have c2 := hI.s.b2.cell 0
        have c30 := hI.s.b3.cell 0
        have c31 := hI.s.b3.cell 1
        have cn := hI.bn.cell 0
        simp at c2 c30 c31 cn
        simp only [encC, hid, hfa]
        clear hI hX hV hid hfa hc hsrc hrow hraw hcv hxl c
        simp [boxed]
        gi_wp2_with fail
        refine ⟨trivial, ?_⟩
        gi_at_call 57
        refine (CallsIn.inRound l (callsIn_wide.2 (K57.out _ (Below.refl _ _)))).mono ?_
        rintro e w5 ⟨rfl, b5⟩
        have P5 := Lib.hid (P.out.below b5)
        clear c2 c30 c31 cn b5 P K57
        have c2 := P5.out.i.s.b2.cell 0
        have cn := P5.out.i.bn.cell 0
        simp at c2 cn
        gi_wp2_with fail
        refine ⟨trivial, ?_⟩
        gi_at_call 38
        refine (CallsIn.inRound l (callsIn_wide.2 (K38.out _ P5.out.b))).mono ?_
        rintro e w6 ⟨v2, rfl, hr2, b6⟩
        obtain ⟨yA, yc, rfl, _⟩ := hr2.slice
        have P6 := Lib.hid (P5.out.below b6)
        have R6 := Lib.hid hr2
        clear c2 cn b6 P5 K38 hr2
        gi_wp2_with fail
        have P7 := Lib.hid (P6.out.below ((Below.refl _ w6).alloc (Nat.le_refl _) (.cells #[.int .i64 kk, .int .i64 f0, .int .i64 f1, .slice yA xs.length yc] 82)))
        have Y7 := Lib.hid (Blk.new w6 82 #[.int .i64 kk, .int .i64 f0, .int .i64 f1, .slice yA xs.length yc])
        have R7 := Lib.hid (R6.out.below ((Below.refl _ w6).alloc (Nat.le_refl _) (.cells #[.int .i64 kk, .int .i64 f0, .int .i64 f1, .slice yA xs.length yc] 82)))
        clear P6 R6
        revert P7 Y7 R7
        generalize w6.alloc (.cells #[.int .i64 kk, .int .i64 f0, .int .i64 f1, .slice yA xs.length yc] 82) = w7
        generalize w6.heap.size = Y
        intro P7 Y7 R7
        have BW := Lib.hid (fun d os => P7.out.i.s.bel.trans ((below_regrown w7 d os).mono (by have := P7.out.i.s.sz; omega)))
        have KA := Lib.hid (fun d os => Calls.regrown_of (same_row (P7.out.row.below (below_regrown w7 d os)) ((SR.out.1.below hw0).below (BW.out d os)) SR.out.2))
        have KB := Lib.hid (fun d os => Calls.regrown_of (same_row (R7.out.below (below_regrown w7 d os)) (src_row (P7.out.row.below (below_regrown w7 d os))) SR.out.2))
        have e31 : ∀ d os, (Go.Sort.grow (redrawn w7 d) os).cell? ⟨w.heap.size + 1, 1, Option.none⟩ = some (.slice (some ⟨b, 0, Option.none⟩) N cv) := fun d os => (P7.out.i.s.b3.regrown d os).cell 1
        have x0 : ∀ d os, (Go.Sort.grow (redrawn w7 d) os).cell? ⟨Bx, 0, Option.none⟩ = some (.int .i64 kk) := fun d os => (P7.out.x.regrown d os).cell 0
        have x1 : ∀ d os, (Go.Sort.grow (redrawn w7 d) os).cell? ⟨Bx, 1, Option.none⟩ = some (.int .i64 f0) := fun d os => (P7.out.x.regrown d os).cell 1
        have x2 : ∀ d os, (Go.Sort.grow (redrawn w7 d) os).cell? ⟨Bx, 2, Option.none⟩ = some (.int .i64 f1) := fun d os => (P7.out.x.regrown d os).cell 2
        have x3 : ∀ d os, (Go.Sort.grow (redrawn w7 d) os).cell? ⟨Bx, 3, Option.none⟩ = some (.slice vA xs.length vc) := fun d os => (P7.out.x.regrown d os).cell 3
        have z0 : ∀ d os, (Go.Sort.grow (redrawn w7 d) os).cell? ⟨Y, 0, Option.none⟩ = some (.int .i64 kk) := fun d os => (Y7.out.regrown d os).cell 0
        have z3 : ∀ d os, (Go.Sort.grow (redrawn w7 d) os).cell? ⟨Y, 3, Option.none⟩ = some (.slice yA xs.length yc) := fun d os => (Y7.out.regrown d os).cell 3
        have p0 : ∀ d os, (Go.Sort.grow (redrawn w7 d) os).cell? ⟨b, kk * 5, Option.none⟩ = some (.int .i64 f0) := fun d os => (Q.out _ (BW.out d os)).1
        have p1 : ∀ d os, (Go.Sort.grow (redrawn w7 d) os).cell? ⟨b, kk * 5 + 1, Option.none⟩ = some (.int .i64 f1) := fun d os => (Q.out _ (BW.out d os)).2.1
        have p3 : ∀ d os, (Go.Sort.grow (redrawn w7 d) os).cell? ⟨b, kk * 5 + 4, Option.none⟩ = some (.slice rA xs.length rc) := fun d os => (Q.out _ (BW.out d os)).2.2.2.2
        have p4 : ∀ d os, (Go.Sort.grow (redrawn w7 d) os).cell? ((⟨b, 0, Option.none⟩ : Addr).add (kk * 5)) = some (.int .i64 f0) := fun d os => by rw [add0]; exact p0 d os
        clear SR Q BW Y7 R7
        have hd0 : decide ((kk : Int) < 0) = false := decide_eq_false (by omega)
        refine round_quiet_below (by rintro ⟨_, _, h⟩; exact h) (by kernel_rfl) (by kernel_rfl) (by kernel_rfl) ?_
        repeat (go_big_quiet_step (first | with_reducible exact KA.out _ _ | with_reducible exact KB.out _ _))
        refine wpQuiet_nil ?_
        rintro _ ⟨⟨nq, osq⟩, rfl⟩
        have P8 := Lib.hid (P7.out.below (below_regrown w7 nq osq))
        clear e31 x0 x1 x2 x3 z0 z3 p0 p1 p3 p4 KA KB P7
        revert P8
        generalize Go.Sort.grow (redrawn w7 nq) osq = w8
        intro P8
        have cn := P8.out.i.bn.cell 0
        have fn := P8.out.i.bn.frozen
        simp at cn
        gi_wp2
        exact eq_round_end P8.out hHW
      case done =>
        intro D W hD hI hK
        have HI := Lib.hid hI
        have HK := Lib.hid hK
        have c2 := hI.s.b2.cell 0
        have cn := hI.bn.cell 0
        simp at c2 cn
        have KN := Lib.hid (nth_out g mb fv m L L.n W (HS.out.d.below hI.s.bel) (.inr (Int.le_refl _)))
        have K56 := Lib.hid (fun (W' : World) (hb : Below W.heap.size W W') => rlen_calls L.last Av cv cs W' (HRep.out.below (hI.s.bel.trans (hb.mono (by have := hI.s.sz; omega)))) (by rw [HN.out]; omega))
        rw [HA.out.lenP, HN.out] at K56
        clear hI hK
        go_wp2_with fail
        refine KN.out.mono ?_
        rintro e w5 ⟨rfl, b5⟩
        have I5 := Lib.hid (HI.out.below b5)
        have K5 := Lib.hid ((b5.block D (Array.getElem?_eq_some_iff.1 HK.out).1).trans HK.out)
        have B5 := Lib.hid b5
        clear c2 cn b5 KN HI HK
        go_upto_region 18 with fail
        have b6 : Below w5.heap.size w5 (w5.alloc (.cells #[.int .i64 0, .int .i64 0, .int .i64 0, .slice Option.none 0 0] 82)) := (Below.refl _ w5).alloc (Nat.le_refl _) _
        have I6 := Lib.hid (I5.out.below b6)
        have K6 := Lib.hid ((b6.block D (Array.getElem?_eq_some_iff.1 K5.out).1).trans K5.out)
        have B6 := Lib.hid (below_then B5.out B5.out.size b6)
        clear b6 I5 K5 B5
        revert I6 K6 B6
        generalize w5.alloc (.cells #[.int .i64 0, .int .i64 0, .int .i64 0, .slice Option.none 0 0] 82) = w6
        intro I6 K6 B6
        have cn := I6.out.bn.cell 0
        have c30 := I6.out.s.b3.cell 0
        have c31 := I6.out.s.b3.cell 1
        have c4 := I6.out.s.b4.cell 0
        have f4 := I6.out.s.b4.frozen
        simp at cn c30 c31 c4
        have AFT := Lib.hid (fun (W' : World) (hb : Below w6.heap.size w6 W') => show ((W'.cell? ⟨G, 0, Option.none⟩ = some (.int .i64 L.n) ∧ W'.cell? ⟨w.heap.size + 1, 0, Option.none⟩ = some (.int .i64 L.last) ∧ W'.cell? ⟨w.heap.size + 1, 1, Option.none⟩ = some (.slice Av N cv)) ∧ W'.cell? ⟨w.heap.size + 1 + 1, 0, Option.none⟩ = some (.bool false) ∧ ∀ i, W'.frozen? ⟨w.heap.size + 1 + 1, i, Option.none⟩ = false) from by
          have I7 := I6.out.below hb
          have d1 := I7.bn.cell 0
          have d2 := I7.s.b3.cell 0
          have d3 := I7.s.b3.cell 1
          have d4 := I7.s.b4.cell 0
          simp at d1 d2 d3 d4
          exact ⟨⟨d1, d2, d3⟩, d4, I7.s.b4.frozen⟩)
        have ne1 : ¬ (w.heap.size + 1 + 1 = G) := by omega
        have ne2 : ¬ (G = w.heap.size + 1 + 1) := by omega
        go_region_held3 (fun W => W.cell? ⟨G, 0, Option.none⟩ = some (.int .i64 L.n) ∧ W.cell? ⟨w.heap.size + 1, 0, Option.none⟩ = some (.int .i64 L.last) ∧ W.cell? ⟨w.heap.size + 1, 1, Option.none⟩ = some (.slice Av N cv)) (go_keep) ((go_at_call 56; refine (K56.out _ (by first | exact below_then B6.out B6.out.size (below_drew (Below.refl _ _)) | exact below_then B6.out B6.out.size (below_drew (below_drew (Below.refl _ _))))).mono ?_; rintro e w7 ⟨rfl, b7⟩; have b67 := below_then (below_drew (Below.refl w6.heap.size w6)) (Nat.le_refl _) b7; obtain ⟨⟨a0, a1, a2⟩, a3, a4⟩ := AFT.out w7 b67; have I7 := Lib.hid (And.intro (I6.out.below b67) ((b67.block D (Array.getElem?_eq_some_iff.1 K6.out).1).trans K6.out)); clear b7 b67))
        all_goals
          go_wp2
          have Y4 := (I7.out.1.s.b4.set_ 0 (.bool true)).eq (cs' := #[.bool true]) (by simp)
          have YB := I7.out.1.s.bel.setCell (p := ⟨w.heap.size + 1 + 1, 0, Option.none⟩) (by simp only; omega) (.bool true)
          have hDD : w.heap.size + 1 + 1 < D := by omega
          have YK : (w7.setCell ⟨w.heap.size + 1 + 1, 0, Option.none⟩ (.bool true)).heap[D]? = some (.deferred (some [])) := (Below.heap_setCell _ _ _ D (by simp only; omega)).trans I7.out.2
          refine ⟨by simp, .inl ⟨_, _, rfl, run_takeDeferred YK, ?_⟩⟩
          have Z4 := (blk_own Y4 (grownBy_putObj' _ D (.deferred Option.none)) (fun r e => by cases e; exact ⟨_, YK, rfl⟩)).cell 0
          simp at Z4
          exact ⟨_, by simp [results, Try.results36, go_sem, Z4], rfl, YB.trans (belowK_b (w := w1) (by omega) _ D _ _ hD YK rfl rfl)⟩
      case stop =>
        intro D c k W _ _ h
        exact h.elim
end Go.Proofs.Ytiphkgkhfomcaaa.Duct
