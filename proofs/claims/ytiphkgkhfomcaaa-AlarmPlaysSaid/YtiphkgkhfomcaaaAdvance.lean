/- Chapter 13 (alarm): Advance. -/
import Derived.Test.YtiphkgkhfomcaaaClockT
import Derived.Outline
set_option linter.unusedSimpArgs false
set_option linter.unusedVariables false
attribute [local go_sem ↓] Go.wp_at_zero Go.wp_at_succ
namespace Go.Proofs.Ytiphkgkhfomcaaa.Alarm
open Go.BigFrame Go.RowKit Go.OpenShut Go.Proofs.Ytiphkgkhfomcaaa.Aid Go.Proofs.Ytiphkgkhfomcaaa.DMap Go.Proofs.Ytiphkgkhfomcaaa.Heap
abbrev nilS : Value := .slice Option.none 0 0
def encI (x : Int) : List Value := [.int .i64 x]
theorem encI_len (x : Int) : (encI x).length = 1 := rfl
theorem encI_one (x : Int) : ∀ u ∈ encI x, u.oneCell' = true := by
  intro u hu
  simp [encI] at hu
  subst hu
  rfl
theorem info3 : (Try.prog.info? 3).map (fun i => (i.zero, i.size, i.bytes)) = some (some (.int .i64 0), 1, 8) := by kernel_rfl
theorem src_int {w : World} {b : Nat} {x : Int} (h : Blk w b 3 #[.int .i64 x]) : ∀ j u, ([x].flatMap encI)[j]? = some u → w.cell? ((⟨b, 0, Option.none⟩ : Addr).add j) = some u := by
  intro j u hu
  have hj : j < 1 := by have := (List.getElem?_eq_some_iff.1 hu).1; simpa [encI] using this
  obtain rfl : j = 0 := by omega
  rw [add0, h.cell 0]
  simpa [encI] using hu
def sliceLen : Value → Nat
  | .slice _ n _ => n
  | _ => 0
structure AdvS (w wr : World) (C R mb : Nat) (fv : Value) (t : Int) (A : List Int) (v : Value) (xs : List Int) (f : Nat) (A1 : List Int) (fv1 : Value) (m1 : Int → Option Value) (l1 : List Ring) : Prop where
  clk : IsClk wr C R mb fv1 m1 l1 ⟨t, A1⟩
  kp : Kp (cb C R mb fv) w wr
  own : ∀ k, fv1.ownBlock = some k → fv.ownBlock = some k ∨ w.heap.size ≤ k
  row : RowOf 3 1 encI wr v xs
  new : ∀ k, v.ownBlock = some k → w.heap.size ≤ k ∧ fv1.ownBlock ≠ some k
  cntf : cnt A1 ≤ f
  len : xs.length + f = A.length
  eq : adv t A.length A = (xs ++ (adv t f A1).1, (adv t f A1).2)
section
variable {w wr w2 w4 : World} {C R mb : Nat} {fv : Value} {t : Int} {A : List Int} {v v' : Value} {xs : List Int} {f : Nat} {A1 : List Int} {fv1 : Value} {m1 : Int → Option Value} {l1 : List Ring}
theorem AdvS.below (h : AdvS w wr C R mb fv t A v xs f A1 fv1 m1 l1) (hb : Below wr.heap.size wr w2) : AdvS w w2 C R mb fv t A v xs f A1 fv1 m1 l1 :=
  ⟨h.clk.below hb, h.kp.below hb, h.own, h.row.below hb, h.new, h.cntf, h.len, h.eq⟩
/-- Behind the drop, ahead of the append. -/
structure MidS (w w2 : World) (C R mb : Nat) (fv : Value) (t : Int) (v : Value) (xs : List Int) (A2 : List Int) (fv2 : Value) (m2 : Int → Option Value) (l2 : List Ring) : Prop where
  clk : IsClk w2 C R mb fv2 m2 l2 ⟨t, A2⟩
  kp : Kp (cb C R mb fv) w w2
  own : ∀ k, fv2.ownBlock = some k → fv.ownBlock = some k ∨ w.heap.size ≤ k
  row : RowOf 3 1 encI w2 v xs
  new : ∀ k, v.ownBlock = some k → w.heap.size ≤ k ∧ fv2.ownBlock ≠ some k
theorem AdvS.mid (h : AdvS w wr C R mb fv t A v xs f A1 fv1 m1 l1) (hw : C < w.heap.size ∧ R < w.heap.size ∧ mb < w.heap.size) {A2 : List Int} (hc : CTurn wr C R mb fv1 ⟨t, A2⟩ w2) : ∃ fv2 m2 l2, MidS w w2 C R mb fv t v xs A2 fv2 m2 l2 := by
  obtain ⟨fv2, m2, l2, h1, h2, h3⟩ := hc
  have own2 : ∀ k, fv2.ownBlock = some k → fv.ownBlock = some k ∨ w.heap.size ≤ k := fun k hk => (h3 k hk).elim (h.own k) (fun e => .inr (Nat.le_trans h.kp.size e))
  refine ⟨fv2, m2, l2, h1, h.kp.trans h2 (fun j hj => ?_), own2, h.row.same (fun k hk => h2.block k (h.row.lt k hk) (fun hb => ?_)), fun k hk => ⟨(h.new k hk).1, fun e => ?_⟩⟩
  · rcases hj with rfl | rfl | hj
    · exact .inl (.inr (.inl rfl))
    · exact .inl (.inr (.inr (.inl rfl)))
    · exact (h.own j hj).imp (fun e => .inr (.inr (.inr e))) id
  · have := (h.new k hk).1
    rcases hb with rfl | rfl | hb
    · omega
    · omega
    · exact (h.new k hk).2 hb
  · rcases h3 k e with h4 | h4
    · exact (h.new k hk).2 h4
    · have := h.row.lt k hk
      omega
theorem AdvS.app (h : AdvS w wr C R mb fv t A v xs f A1 fv1 m1 l1) (hw : C < w.heap.size ∧ R < w.heap.size ∧ mb < w.heap.size) {b : Nat} {fv2 : Value} {m2 : Int → Option Value} {l2 : List Ring} (hm : MidS w w2 C R mb fv t v xs (A1.set b (-1)) fv2 m2 l2) (hb : best A1 = b) (hat : at_ A1 b ≤ t) (h0 : 0 ≤ at_ A1 b) {o : Obj} (ha : App (w2.alloc o) w4 v v') (hr : RowOf 3 1 encI w4 v' (xs ++ [(b : Int)])) :
    ∃ f', f = f' + 1 ∧ AdvS w w4 C R mb fv t A v' (xs ++ [(b : Int)]) f' (A1.set b (-1)) fv2 m2 l2 := by
  have hc := cnt_off (Heap.get_at (at_lt h0)) h0
  obtain ⟨f', rfl⟩ : ∃ f', f = f' + 1 := ⟨f - 1, by have := h.cntf; omega⟩
  have hs : (w2.alloc o).heap.size = w2.heap.size + 1 := World.size_alloc _ _
  have h4 := ha.size
  have hk := hm.kp.size
  have nv : ∀ k, k < w2.heap.size → v.ownBlock ≠ some k → w4.heap[k]? = w2.heap[k]? := fun k h1 h2 => (ha.block k (by omega) h2).trans (Below.heap_alloc w2 o k h1)
  have own' : ∀ k, v'.ownBlock = some k → v.ownBlock = some k ∨ w2.heap.size ≤ k := fun k hk => (ha.own k hk).imp id (fun e => by omega)
  refine ⟨f', rfl, ?_, ?_, hm.own, hr, fun k hk2 => ?_, by have := h.cntf; omega, by have := h.len; simp; omega, ?_⟩
  · refine hm.clk.same (fun k hk2 => nv k (hm.clk.lt k hk2) (fun e => ?_))
    have := hm.new k e
    rcases hk2 with rfl | rfl | rfl | hk2
    · omega
    · omega
    · omega
    · exact this.2 hk2
  · refine ⟨ha.os.trans hm.kp.os, ha.tape.trans hm.kp.tape, ha.output.trans hm.kp.output, by omega, fun k h1 h2 => (nv k (by omega) (fun e => ?_)).trans (hm.kp.block k h1 h2)⟩
    have := (hm.new k e).1
    omega
  · rcases own' k hk2 with e | e
    · exact hm.new k e
    · refine ⟨by omega, fun e2 => ?_⟩
      have := hm.clk.rings.row.lt k e2
      omega
  · rw [h.eq, adv_go hb hat]
    simp
end
def Rang (w : World) (B : Nat → Prop) (C : Nat) (t : Int) (A : List Int) (e : Ending) (w' : World) : Prop :=
  ∃ v B', e = .returned (.tuple #[v, .int .i64 0]) ∧ Clk w' B' C ⟨t, (adv t A.length A).2⟩ ∧ RowOf 3 1 encI w' v (adv t A.length A).1 ∧ (∀ k, v.ownBlock = some k → w.heap.size ≤ k ∧ ¬ B' k) ∧ (∀ k, B' k → B k ∨ w.heap.size ≤ k) ∧ Kp B w w'
theorem AdvS.done {w wr : World} {C R mb : Nat} {fv : Value} {t : Int} {A : List Int} {v : Value} {xs : List Int} {f : Nat} {A1 : List Int} {fv1 : Value} {m1 : Int → Option Value} {l1 : List Ring} {B : Nat → Prop} (h : AdvS w wr C R mb fv t A v xs f A1 fv1 m1 l1) (hw : C < w.heap.size ∧ R < w.heap.size ∧ mb < w.heap.size) (hB : ∀ k, B k ↔ cb C R mb fv k) (hs : best A1 < 0 ∨ t < at_ A1 (best A1).toNat) :
    Rang w B C t A (.returned (.tuple #[v, .int .i64 0])) wr := by
  have e := h.eq
  rw [adv_stop hs] at e
  simp only [List.append_nil] at e
  refine ⟨v, cb C R mb fv1, rfl, ⟨R, mb, fv1, m1, l1, by rw [e]; exact h.clk, fun k => Iff.rfl⟩, by rw [e]; exact h.row, fun k hk => ⟨(h.new k hk).1, fun hc => ?_⟩, fun k hk => ?_, h.kp.more (fun k hk => (hB k).2 hk)⟩
  · have := h.new k hk
    rcases hc with rfl | rfl | rfl | hc
    · omega
    · omega
    · omega
    · exact this.2 hc
  · rcases hk with rfl | rfl | rfl | hk
    · exact .inl ((hB _).2 (.inl rfl))
    · exact .inl ((hB _).2 (.inr (.inl rfl)))
    · exact .inl ((hB _).2 (.inr (.inr (.inl rfl))))
    · exact (h.own k hk).imp (fun e => (hB k).2 (.inr (.inr (.inr e)))) id
theorem advance_nil (dt : Int) (w : World) : Calls Try.prog 15 #[.pointer Option.none, .int .i64 dt] w (Same w (.tuple #[nilS, .int .i64 1])) := by
  go_enter Try.func15, Try.ntmps15
  go_wp2
  go_ret2
  exact ⟨rfl, rfl⟩
theorem advance_bad (B : Nat → Prop) (C : Nat) (c : Ck) (dt : Int) (w : World) (h : Clk w B C c) (hd : dt < 0 ∨ 4611686018427387904 - c.now < dt) : Calls Try.prog 15 #[.pointer (some ⟨C, 0, Option.none⟩), .int .i64 dt] w (Same w (.tuple #[nilS, .int .i64 3])) := by
  have n0 := h.ok.n0
  have n1 := h.ok.n1
  obtain ⟨R, mb, fv, m, l, h, hB⟩ := h
  have c1 := h.box.cell 1
  simp at c1
  clear h hB
  generalize c.now = nw at *
  rcases (by omega : dt < 0 ∨ (¬ dt < 0 ∧ 4611686018427387904 - nw < dt)) with h1 | ⟨h1, h2⟩
  · clear hd
    go_enter Try.func15, Try.ntmps15
    go_wp2
    go_ret2
    exact ⟨rfl, rfl⟩
  · clear hd
    go_enter Try.func15, Try.ntmps15
    go_wp2
    go_ret2
    exact ⟨rfl, rfl⟩
set_option maxRecDepth 100000 in
set_option maxHeartbeats 4000000 in
theorem advance_calls (B : Nat → Prop) (C : Nat) (c : Ck) (dt : Int) (w : World) (h : Clk w B C c) (h0 : 0 ≤ dt) (h1 : dt ≤ 4611686018427387904 - c.now) : Calls Try.prog 15 #[.pointer (some ⟨C, 0, Option.none⟩), .int .i64 dt] w (Rang w B C (c.now + dt) c.A) := by
  obtain ⟨i0, hi, hz0, hz1, hz2⟩ := info_parts info3
  have n0 := h.ok.n0
  have n1 := h.ok.n1
  have hlen := h.ok.len
  obtain ⟨R, mb, fv, m, l, h, hB⟩ := h
  have hw : C < w.heap.size ∧ R < w.heap.size ∧ mb < w.heap.size := ⟨h.lt C (.inl rfl), h.lt R (.inr (.inl rfl)), h.lt mb (.inr (.inr (.inl rfl)))⟩
  have c1 := h.box.cell 1
  have fz := h.box.frozen
  simp at c1
  have q0 : ¬ (dt < 0) := by omega
  have q1 : ¬ (4611686018427387904 - c.now < dt) := by omega
  have q2 : c.now + dt ≤ 4611686018427387904 := by omega
  have I0 : IsClk (w.setCell ⟨C, 1, Option.none⟩ (.int .i64 (c.now + dt))) C R mb fv m l ⟨c.now + dt, c.A⟩ := by
    refine ⟨(h.box.set_ 1 _).eq (by simp), h.rings.same (fun k hk => Below.heap_setCell w _ _ k (fun e => ?_)), h.heap, h.rep, h.cnt, h.cR, h.cm, h.cf, ⟨by show 0 ≤ c.now + dt; omega, by show c.now + dt ≤ _; omega, h.ok.len, h.ok.each⟩⟩
    have e : k = C := e
    subst e
    rcases hk with e2 | e2 | e2
    · exact h.cR e2
    · exact h.cm e2
    · exact h.cf e2
  have K0 : Kp (cb C R mb fv) w (w.setCell ⟨C, 1, Option.none⟩ (.int .i64 (c.now + dt))) := ⟨rfl, rfl, rfl, by simp [World.setCell], fun k _ h2 => Below.heap_setCell w _ _ k (fun e => h2 (.inl e))⟩
  have S0 := Lib.hid (show AdvS w (w.setCell ⟨C, 1, Option.none⟩ (.int .i64 (c.now + dt))) C R mb fv (c.now + dt) c.A nilS [] c.A.length c.A fv m l from
    ⟨I0, K0, fun k hk => .inl hk, .inl ⟨rfl, rfl⟩, fun k hk => by simp [Value.ownBlock] at hk, cnt_le _, by simp, by simp⟩)
  clear h I0 K0
  go_enter Try.func15, Try.ntmps15
  go_upto_region 6 with fail
  generalize w.setCell ⟨C, 1, Option.none⟩ (.int .i64 (c.now + dt)) = w1 at *
  clear c1 fz
  generalize c.now + dt = t at *
  go_wp2
  go_loopw [6] (fun v wr => ∃ (Av : Option Addr) (cv : Nat) (xs : List Int) (f : Nat) (A1 : List Int) (fv1 : Value) (m1 : Int → Option Value) (l1 : List Ring), v = .slice Av xs.length cv ∧ xs.length + f = c.A.length ∧ Hid (AdvS w wr C R mb fv t c.A (.slice Av xs.length cv) xs f A1 fv1 m1 l1)) (fun v _ => c.A.length - sliceLen v)
  case atStart => exact ⟨Option.none, 0, [], c.A.length, c.A, fv, m, l, rfl, by simp, S0⟩
  case round =>
    obtain ⟨Av, cv, xs, f, A1, fv1, m1, l1, rfl, hxf, hS⟩ := hrel
    clear S0
    have KB : Clk wr (cb C R mb fv1) C ⟨t, A1⟩ := ⟨R, mb, fv1, m1, l1, hS.out.clk, fun k => Iff.rfl⟩
    by_cases hb : best A1 < 0
    · have KN := Lib.hid (next_none _ C ⟨t, A1⟩ wr KB hb)
      have KD := Lib.hid (fun (W : World) (hW : Below wr.heap.size wr W) => (hS.out.below hW).done hw hB (.inl hb))
      clear KB
      go_wp2_with fail
      refine KN.out.mono ?_
      rintro e w2 ⟨rfl, b2⟩
      have D := Lib.hid (KD.out w2 b2)
      clear b2 KD
      go_wp2
      go_ret2
      exact D.out
    · obtain ⟨b, hbe, hb1, hb0, _⟩ := best_some hb
      have KN := Lib.hid (next_some _ C ⟨t, A1⟩ b wr KB hbe)
      clear KB
      obtain ⟨a, ha⟩ : ∃ a, at_ A1 b = a := ⟨_, rfl⟩
      rw [show at_ (Ck.mk t A1).A b = a from ha] at KN
      by_cases hat : t < a
      · have KD := Lib.hid (fun (W : World) (hW : Below wr.heap.size wr W) => (hS.out.below hW).done hw hB (.inr (by rw [hbe, Int.toNat_natCast, ha]; exact hat)))
        go_wp2_with fail
        refine KN.out.mono ?_
        rintro e w2 ⟨rfl, b2⟩
        have D := Lib.hid (KD.out w2 b2)
        have x1 := (hS.out.below b2).clk.box.cell 1
        simp at x1
        clear b2 KD
        go_wp2
        go_ret2
        exact D.out
      · go_wp2_with fail
        refine KN.out.mono ?_
        rintro e w2 ⟨rfl, b2⟩
        have S2 := Lib.hid (hS.out.below b2)
        clear b2
        have x0 := S2.out.clk.box.cell 0
        have x1 := S2.out.clk.box.cell 1
        simp at x0 x1
        go_wp2_with fail
        refine (drop_on C R mb fv1 m1 l1 ⟨t, A1⟩ b w2 S2.out.clk hb0).mono ?_
        rintro e w3 ⟨rfl, hc⟩
        obtain ⟨fv2, m2, l2, hM⟩ := S2.out.mid hw hc
        have M3 := Lib.hid hM
        clear hM hc x0 x1
        have hxl : xs.length ≤ 64 := by omega
        go_wp2_with (at_builtin; refine wpList_append_row (by rfl) _ _ 33 (by rfl) i0 _ 8 Try.underlying33 hi hz0 hz1 hz2 (by decide) (by decide) encI_len encI_one (.slice Av xs.length cv) xs (by rfl) (M3.out.row.same fun k hk => Below.heap_alloc w3 _ k (M3.out.row.lt k hk)) ⟨w3.heap.size, 0, Option.none⟩ 1 1 [(b : Int)] rfl (by rfl) (src_int (heap_alloc_new _ _)) ?k2 ?k3 ?k4)
        case k2 => unfold maxLen; omega
        case k3 => omega
        case k4 =>
          intro v' w4 hr ha4
          obtain ⟨A', c', rfl, _⟩ := hr.slice
          obtain ⟨f', hf, hA⟩ := S2.out.app hw M3.out hbe (by rw [ha]; omega) hb0 ha4 hr
          have S4 := Lib.hid hA
          clear hA hr ha4
          go_wp2
          go_roundw
          case rel => exact ⟨A', c', xs ++ [(b : Int)], f', A1.set b (-1), fv2, m2, l2, rfl, by simp; omega, S4⟩
          case measure => simp [sliceLen]; omega
end Go.Proofs.Ytiphkgkhfomcaaa.Alarm
