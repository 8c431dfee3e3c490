/- Chapter 13 (alarm): the document's own: Advance. -/
import Derived.Test.YtiphkgkhfomcaaaRefD
set_option linter.unusedSimpArgs false
set_option linter.unusedVariables false
attribute [local go_sem ↓] Go.wp_at_zero Go.wp_at_succ
namespace Go.Proofs.Ytiphkgkhfomcaaa.Alarm
open Go.BigFrame Go.RowKit Go.OpenShut Go.Proofs.Ytiphkgkhfomcaaa.Aid Go.Proofs.Ytiphkgkhfomcaaa.DMap Go.Proofs.Ytiphkgkhfomcaaa.Heap
structure RA (w wr : World) (H : Nat) (t : Int) (A : List Int) (v v1 vo : Value) (xs A1 : List Int) (f : Nat) : Prop where
  x : Blk wr H 44 #[.int .i64 t, v1]
  y : Blk wr (H + 1) 44 #[.int .i64 0, nilS]
  r1 : RowOf 3 1 encI wr v1 A1
  ro : RowOf 3 1 encI wr vo xs
  bel : Below w.heap.size w wr
  far : w.heap.size ≤ H
  o1 : ∀ j, v1.ownBlock = some j → (v.ownBlock = some j ∨ w.heap.size ≤ j) ∧ j ≠ H ∧ j ≠ H + 1
  oo : ∀ j, vo.ownBlock = some j → w.heap.size ≤ j ∧ j ≠ H ∧ j ≠ H + 1 ∧ v1.ownBlock ≠ some j
  len : A1.length = A.length
  cnt : cnt A1 ≤ f
  sum : xs.length + f = A.length
  eq : adv t A.length A = (xs ++ (adv t f A1).1, (adv t f A1).2)
section
variable {w wr w2 w3 w4 : World} {H : Nat} {t : Int} {A : List Int} {v v1 vo v' : Value} {xs A1 : List Int} {f : Nat}
theorem RA.below (h : RA w wr H t A v v1 vo xs A1 f) (hb : Below wr.heap.size wr w2) : RA w w2 H t A v v1 vo xs A1 f :=
  ⟨h.x.below hb h.x.lt, h.y.below hb h.y.lt, h.r1.below hb, h.ro.below hb, below_then h.bel h.bel.size hb, h.far, h.o1, h.oo, h.len, h.cnt, h.sum, h.eq⟩
/-- Behind the append: one more has rung; the clock itself is not turned yet. -/
structure RB (w wr : World) (H : Nat) (t : Int) (A : List Int) (v v1 vo : Value) (xs A1 : List Int) (b : Nat) (f : Nat) : Prop where
  x : Blk wr H 44 #[.int .i64 t, v1]
  y : Blk wr (H + 1) 44 #[.int .i64 0, nilS]
  r1 : RowOf 3 1 encI wr v1 A1
  ro : RowOf 3 1 encI wr vo (xs ++ [(b : Int)])
  bel : Below w.heap.size w wr
  far : w.heap.size ≤ H
  oo : ∀ j, vo.ownBlock = some j → w.heap.size ≤ j ∧ j ≠ H ∧ j ≠ H + 1
  len : A1.length = A.length
  cnt : cnt (A1.set b (-1)) ≤ f
  sum : xs.length + 1 + f = A.length
  eq : adv t A.length A = ((xs ++ [(b : Int)]) ++ (adv t f (A1.set b (-1))).1, (adv t f (A1.set b (-1))).2)
theorem RA.app (h : RA w wr H t A v v1 vo xs A1 f) {b : Nat} (hb : best A1 = b) (hat : at_ A1 b ≤ t) (h0 : 0 ≤ at_ A1 b) {o : Obj} (ha : App (wr.alloc o) w2 vo v') (hr : RowOf 3 1 encI w2 v' (xs ++ [(b : Int)])) : ∃ f', f = f' + 1 ∧ RB w w2 H t A v v1 v' xs A1 b f' := by
  have hc := cnt_off (Heap.get_at (at_lt h0)) h0
  obtain ⟨f', rfl⟩ : ∃ f', f = f' + 1 := ⟨f - 1, by have := h.cnt; omega⟩
  have hs : (wr.alloc o).heap.size = wr.heap.size + 1 := World.size_alloc _ _
  have hsz := ha.size
  have l0 := h.x.lt
  have l1 := h.y.lt
  have lb := h.bel.size
  have keep : ∀ j, j < wr.heap.size → vo.ownBlock ≠ some j → w2.heap[j]? = wr.heap[j]? := fun j h1 h2 => (ha.block j (by omega) h2).trans (Below.heap_alloc wr o j h1)
  refine ⟨f', rfl, (keep H l0 (fun e => (h.oo _ e).2.1 rfl)).trans h.x, (keep (H + 1) l1 (fun e => (h.oo _ e).2.2.1 rfl)).trans h.y, h.r1.same (fun j hj => keep j (h.r1.lt j hj) (fun e => (h.oo j e).2.2.2 hj)), hr, ⟨ha.os.trans h.bel.os, ha.tape.trans h.bel.tape, ha.output.trans h.bel.output, by omega, fun j hj => (keep j (by omega) (fun e => by have := (h.oo j e).1; omega)).trans (h.bel.block j hj)⟩, h.far, fun j hj => ?_, h.len, by have := h.cnt; omega, by have := h.sum; omega, ?_⟩
  · rcases ha.own j hj with e | e
    · exact ⟨(h.oo j e).1, (h.oo j e).2.1, (h.oo j e).2.2.1⟩
    · omega
  · rw [h.eq, adv_go hb hat]
    simp
/-- Behind the put: the box is written. -/
theorem RB.put {b : Nat} (h : RB w wr H t A v v1 vo xs A1 b f) (hn : RefNew wr t (A1.set b (-1)) v' w2) : RA w ((w2.setCell ⟨H, 0, Option.none⟩ (.int .i64 t)).setCell ⟨H, 1, Option.none⟩ v') H t A v v' vo (xs ++ [(b : Int)]) (A1.set b (-1)) f := by
  obtain ⟨n1, n2, n3⟩ := hn
  have x2 := h.x.below n2 h.x.lt
  have y2 := h.y.below n2 h.y.lt
  have lb := h.bel.size
  have l1 := h.y.lt
  have far := h.far
  have keep : ∀ k, k ≠ H → ((w2.setCell ⟨H, 0, Option.none⟩ (.int .i64 t)).setCell ⟨H, 1, Option.none⟩ v').heap[k]? = w2.heap[k]? := fun k hk => (Below.heap_setCell _ _ _ k hk).trans (Below.heap_setCell _ _ _ k hk)
  refine ⟨((x2.set_ 0 (.int .i64 t)).set_ 1 v').eq (by simp), (keep (H + 1) (by omega)).trans y2, n1.same (fun j hj => keep j (fun e => by have := n3 j hj; omega)), (h.ro.below n2).same (fun j hj => keep j (h.oo j hj).2.1), ((below_then h.bel lb n2).setCell (p := ⟨H, 0, Option.none⟩) far _).setCell (p := ⟨H, 1, Option.none⟩) far _, far, fun j hj => ?_, fun j hj => ⟨(h.oo j hj).1, (h.oo j hj).2.1, (h.oo j hj).2.2, fun e => ?_⟩, by simpa using h.len, h.cnt, by have := h.sum; simp; omega, h.eq⟩
  · have := n3 j hj
    exact ⟨.inr (by omega), by omega, by omega⟩
  · have := n3 j e
    have := h.ro.lt j hj
    omega
end
def RefRang (w : World) (t : Int) (A : List Int) (v : Value) (e : Ending) (w' : World) : Prop :=
  ∃ v' vl, e = .returned (.tuple #[refV t v', vl, .int .i64 0]) ∧ RowOf 3 1 encI w' v' (adv t A.length A).2 ∧ RowOf 3 1 encI w' vl (adv t A.length A).1 ∧ Below w.heap.size w w' ∧ (∀ k, v'.ownBlock = some k → v.ownBlock = some k ∨ w.heap.size ≤ k) ∧ ∀ k, vl.ownBlock = some k → w.heap.size ≤ k
theorem RA.done {w wr : World} {H : Nat} {t : Int} {A : List Int} {v v1 vo : Value} {xs A1 : List Int} {f : Nat} (h : RA w wr H t A v v1 vo xs A1 f) (hs : best A1 < 0 ∨ t < at_ A1 (best A1).toNat) :
    RefRang w t A v (.returned (.tuple #[refV t v1, vo, .int .i64 0])) ((wr.setCell ⟨H + 1, 0, Option.none⟩ (.int .i64 t)).setCell ⟨H + 1, 1, Option.none⟩ v1) ∧ Blk ((wr.setCell ⟨H + 1, 0, Option.none⟩ (.int .i64 t)).setCell ⟨H + 1, 1, Option.none⟩ v1) (H + 1) 44 #[.int .i64 t, v1] := by
  have e := h.eq
  rw [adv_stop hs] at e
  simp only [List.append_nil] at e
  obtain ⟨o1, o2, o4⟩ := out_door (now := t) (v := v1) (H := H + 1) (by have := h.far; omega) h.bel h.y
  exact ⟨⟨v1, vo, rfl, by rw [e]; exact h.r1.same (fun j hj => o4 j (h.o1 j hj).2.2), by rw [e]; exact h.ro.same (fun j hj => o4 j (h.oo j hj).2.2.1), o2, fun k hk => (h.o1 k hk).1, fun k hk => (h.oo k hk).1⟩, o1⟩
theorem radv_bad (now : Int) (v : Value) (A : List Int) (dt : Int) (w : World) (h : RowOf 3 1 encI w v A) (n0 : 0 ≤ now) (n1 : now ≤ 4611686018427387904) (hd : dt < 0 ∨ 4611686018427387904 - now < dt) : Calls Try.prog 44 #[refV now v, .int .i64 dt] w (Gives w (.tuple #[refV now v, nilS, .int .i64 3])) := by
  obtain ⟨A1, c1, rfl, hc⟩ := h.slice
  have O := Lib.hid (show Below w.heap.size w ((w.alloc (.cells #[.int .i64 now, .slice A1 A.length c1] 44)).alloc (.cells #[.int .i64 now, .slice A1 A.length c1] 44)) from ((Below.refl _ w).alloc (Nat.le_refl _) _).alloc (by simp) _)
  clear h hc
  generalize A.length = n at *
  rcases (by omega : dt < 0 ∨ (¬ dt < 0 ∧ 4611686018427387904 - now < dt)) with h1 | ⟨h1, h2⟩
  · clear hd
    go_enter Try.func44, Try.ntmps44
    go_wp2
    exact bodyPost_ret (v := .tuple #[refV now (.slice A1 n c1), nilS, .int .i64 3]) (by simp [results, Try.results44, go_sem, nilS]; done) rfl ⟨rfl, O.out⟩
  · clear hd
    go_enter Try.func44, Try.ntmps44
    go_wp2
    exact bodyPost_ret (v := .tuple #[refV now (.slice A1 n c1), nilS, .int .i64 3]) (by simp [results, Try.results44, go_sem, nilS]; done) rfl ⟨rfl, O.out⟩
set_option maxRecDepth 100000 in
set_option maxHeartbeats 4000000 in
theorem radv_calls (now : Int) (v : Value) (A : List Int) (dt : Int) (w : World) (h : RowOf 3 1 encI w v A) (hl : A.length ≤ 64) (n0 : 0 ≤ now) (n1 : now ≤ 4611686018427387904) (h0 : 0 ≤ dt) (h1 : dt ≤ 4611686018427387904 - now) : Calls Try.prog 44 #[refV now v, .int .i64 dt] w (RefRang w (now + dt) A v) := by
  obtain ⟨i0, hi, hz0, hz1, hz2⟩ := info_parts info3
  obtain ⟨Av, cv, rfl, hc⟩ := h.slice
  obtain ⟨d1, d2, d3⟩ := doors w (now + dt) (.slice Av A.length cv)
  have q0 : ¬ (dt < 0) := by omega
  have q1 : ¬ (4611686018427387904 - now < dt) := by omega
  have q2 : now + dt ≤ 4611686018427387904 := by omega
  have hsz : ((w.alloc (.cells #[.int .i64 (now + dt), .slice Av A.length cv] 44)).alloc (.cells #[.int .i64 0, nilS] 44)).heap.size = w.heap.size + 1 + 1 := by simp
  have S0 := Lib.hid (show RA w ((w.alloc (.cells #[.int .i64 (now + dt), .slice Av A.length cv] 44)).alloc (.cells #[.int .i64 0, nilS] 44)) w.heap.size (now + dt) A (.slice Av A.length cv) (.slice Av A.length cv) nilS [] A A.length from
    ⟨d2, d3, h.below d1, .inl ⟨rfl, rfl⟩, d1, Nat.le_refl _, fun j hj => by have := h.lt j hj; exact ⟨.inl hj, by omega, by omega⟩, fun j hj => by simp [Value.ownBlock] at hj, rfl, cnt_le _, by simp, by simp⟩)
  clear d1 d2 d3 hsz h hc
  go_enter Try.func44, Try.ntmps44
  go_upto_region 4 with fail
  revert S0
  generalize (w.alloc (.cells #[.int .i64 (now + dt), .slice Av A.length cv] 44)).alloc (.cells #[.int .i64 0, nilS] 44) = w1
  intro S0
  generalize hH : w.heap.size = H at *
  have HH := Lib.hid hH
  clear hH
  generalize now + dt = t at *
  obtain ⟨n, hn⟩ : ∃ n, A.length = n := ⟨_, rfl⟩
  have HN := Lib.hid hn
  go_wp2
  go_loopw [7, 8] (fun lv iv wr => ∃ (v1 : Value) (Ao : Option Addr) (co : Nat) (xs A1 : List Int) (f : Nat), lv = .slice Ao xs.length co ∧ iv = .int .i64 xs.length ∧ Hid (RA w wr H t A (.slice Av A.length cv) v1 (.slice Ao xs.length co) xs A1 f)) (fun _ iv _ => A.length - (intOf iv).toNat)
  case atStart => exact ⟨_, Option.none, 0, [], A, A.length, rfl, rfl, S0⟩
  case round =>
    obtain ⟨v1, Ao, co, xs, A1, f, rfl, rfl, hS⟩ := hrel
    clear S0
    have hl1 : A1.length = n := by rw [hS.out.len, hn]
    obtain ⟨Aa, ca, rfl, _⟩ := hS.out.r1.slice
    rw [hl1] at hS
    have hsum := hS.out.sum
    rw [hn] at hsum
    have x0 := hS.out.x.cell 0
    have x1 := hS.out.x.cell 1
    simp at x0 x1
    by_cases hf : 0 < f
    · have hxn : (xs.length : Int) < (n : Int) := by omega
      have KN := Lib.hid (rnext_calls t (.slice Aa n ca) A1 wr hS.out.r1 (by omega))
      by_cases hb : best A1 < 0
      · have hbe := (best_none hb).1
        rw [hbe] at KN
        go_wp2_with fail
        refine KN.out.mono ?_
        rintro e w2 ⟨rfl, b2⟩
        have S2 := Lib.hid (hS.out.below b2)
        clear b2 KN x0 x1
        have x0 := S2.out.x.cell 0
        have x1 := S2.out.x.cell 1
        simp at x0 x1
        have DN := Lib.hid (fun nq => (S2.out.below (below_drewN (Below.refl _ _) nq)).done (.inl hb))
        have y0 := S2.out.y.cell 0
        have y1 := S2.out.y.cell 1
        have yf := S2.out.y.frozen
        simp at y0 y1
        go_wp2
        refine wp_region_quiet_lit (by kernel_rfl) (by kernel_rfl) ?_
        repeat (go_big_quiet_step (fail))
        refine wpQuiet_nil ?_
        rintro _ ⟨nq, rfl⟩
        obtain ⟨F1, F2⟩ := DN.out nq
        have t0 := F2.cell 0
        have t1 := F2.cell 1
        go_wp2
        exact bodyPost_ret (v := .tuple #[refV t (.slice Aa n ca), .slice Ao xs.length co, .int .i64 0]) (by simp at t0 t1; simp [results, Try.results44, go_sem, t0, t1]; done) rfl (by rw [hn] at F1; exact F1)
      · obtain ⟨b, hbe, hbl, hb0, _⟩ := best_some hb
        rw [hbe] at KN
        obtain ⟨a, ha⟩ : ∃ a, at_ A1 b = a := ⟨_, rfl⟩
        go_wp2_with fail
        refine KN.out.mono ?_
        rintro e w2 ⟨rfl, b2⟩
        have S2 := Lib.hid (hS.out.below b2)
        clear b2 KN x0 x1
        have x0 := S2.out.x.cell 0
        have x1 := S2.out.x.cell 1
        simp at x0 x1
        obtain ⟨bb, rfl⟩ := row3_some S2.out.r1 (by omega)
        have z0 := row3_cell S2.out.r1 b hbl
        rw [ha] at z0
        have p0 : (0 : Int) ≤ (b : Int) := by omega
        have p1 : (b : Int) < (n : Int) := by omega
        have p2 : decide ((b : Int) < 0) = false := decide_eq_false (by omega)
        by_cases hat : t < a
        · have p3 : decide (t < a) = true := decide_eq_true hat
          have DN := Lib.hid (fun nq => (S2.out.below (below_drewN (Below.refl _ _) nq)).done (.inr (by rw [hbe, Int.toNat_natCast, ha]; exact hat)))
          have y0 := S2.out.y.cell 0
          have y1 := S2.out.y.cell 1
          have yf := S2.out.y.frozen
          simp at y0 y1
          clear hb0 ha
          go_wp2
          refine wp_region_quiet_lit (by kernel_rfl) (by kernel_rfl) ?_
          repeat (go_big_quiet_step (fail))
          refine wpQuiet_nil ?_
          rintro _ ⟨nq, rfl⟩
          obtain ⟨F1, F2⟩ := DN.out nq
          have t0 := F2.cell 0
          have t1 := F2.cell 1
          go_wp2
          exact bodyPost_ret (v := .tuple #[refV t (.slice (some ⟨bb, 0, Option.none⟩) n ca), .slice Ao xs.length co, .int .i64 0]) (by simp at t0 t1; simp [results, Try.results44, go_sem, t0, t1]; done) rfl (by rw [hn] at F1; exact F1)
        · have p3 : decide (t < a) = false := decide_eq_false hat
          have HA := Lib.hid (And.intro hbe (And.intro hb0 (And.intro ha hbl)))
          clear hb0 ha hbe
          go_wp2
          refine wp_region_quiet_lit (by kernel_rfl) (by kernel_rfl) ?_
          repeat (go_big_quiet_step (fail))
          refine wpQuiet_nil ?_
          rintro _ ⟨nq, rfl⟩
          have S3 := Lib.hid (S2.out.below (below_drewN (Below.refl _ _) nq))
          clear S2 x0 x1 z0
          generalize w2.drewN nq = w3 at *
          have hxl : xs.length ≤ 64 := by omega
          go_wp2_with (at_builtin; refine wpList_append_row (by rfl) _ _ 33 (by rfl) i0 _ 8 Try.underlying33 hi hz0 hz1 hz2 (by decide) (by decide) encI_len encI_one (.slice Ao xs.length co) xs (by rfl) (S3.out.ro.same fun k hk => Below.heap_alloc w3 _ k (S3.out.ro.lt k hk)) ⟨w3.heap.size, 0, Option.none⟩ 1 1 [(b : Int)] rfl (by rfl) (src_int (heap_alloc_new _ _)) ?k2 ?k3 ?k4)
          case k2 => unfold maxLen; omega
          case k3 => omega
          case k4 =>
            intro v' w4 hr ha4
            obtain ⟨A5, c5, rfl, _⟩ := hr.slice
            obtain ⟨f', hff, hB⟩ := S3.out.app HA.out.1 (by rw [HA.out.2.2.1]; omega) HA.out.2.1 ha4 hr
            have B4 := Lib.hid hB
            clear hr ha4 hB
            have x0 := B4.out.x.cell 0
            have x1 := B4.out.x.cell 1
            simp at x0 x1
            have KP := Lib.hid (put_calls t (.slice (some ⟨bb, 0, Option.none⟩) n ca) A1 b (-1) w4 B4.out.r1 HA.out.2.2.2 (by omega))
            go_wp2_with fail
            refine KP.out.mono ?_
            rintro e w5 ⟨v5, rfl, r5⟩
            obtain ⟨A6, n6, c6, rfl⟩ := r5.1.some_slice
            have R6 := Lib.hid (B4.out.put r5)
            have X5 := B4.out.x.below r5.2.1 B4.out.x.lt
            have u0 := X5.cell 0
            have u1 := X5.cell 1
            have uf := X5.frozen
            simp at u0 u1
            clear r5 X5 KP x0 x1
            go_wp2
            go_roundw
            case rel => exact ⟨_, A5, c5, xs ++ [(b : Int)], A1.set b (-1), f', by simp, by simp <;> go_num, R6⟩
            case measure => simp [intOf]; omega
    · have hf0 : f = 0 := by omega
      have hxn : ¬ ((xs.length : Int) < (n : Int)) := by omega
      have hb := (@cnt_best A1).1 (by have := hS.out.cnt; omega)
      have DN := Lib.hid (hS.out.done (.inl hb))
      have y0 := hS.out.y.cell 0
      have y1 := hS.out.y.cell 1
      have yf := hS.out.y.frozen
      simp at y0 y1
      clear hf0
      obtain ⟨F1, F2⟩ := DN.out
      have t0 := F2.cell 0
      have t1 := F2.cell 1
      go_wp2
      exact bodyPost_ret (v := .tuple #[refV t (.slice Aa n ca), .slice Ao xs.length co, .int .i64 0]) (by simp at t0 t1; simp [results, Try.results44, go_sem, t0, t1]; done) rfl (by rw [hn] at F1; exact F1)
end Go.Proofs.Ytiphkgkhfomcaaa.Alarm
