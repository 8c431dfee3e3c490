/- Chapter 13 (alarm): New, Stop, Set. -/
import Derived.Test.YtiphkgkhfomcaaaClockS
set_option linter.unusedSimpArgs false
set_option linter.unusedVariables false
attribute [local go_sem ↓] Go.wp_at_zero Go.wp_at_succ
namespace Go.Proofs.Ytiphkgkhfomcaaa.Alarm
open Go.BigFrame Go.RowKit Go.OpenShut Go.Proofs.Ytiphkgkhfomcaaa.Aid Go.Proofs.Ytiphkgkhfomcaaa.DMap Go.Proofs.Ytiphkgkhfomcaaa.Heap
def CTurn (w : World) (C R mb : Nat) (fv : Value) (c' : Ck) (w' : World) : Prop :=
  ∃ fv' m' l', IsClk w' C R mb fv' m' l' c' ∧ Kp (rb R mb fv) w w' ∧ (∀ k, fv'.ownBlock = some k → fv.ownBlock = some k ∨ w.heap.size ≤ k)
theorem CkOk.off {c : Ck} (h : CkOk c) (nm : Nat) : CkOk ⟨c.now, c.A.set nm (-1)⟩ :=
  ⟨h.n0, h.n1, by simpa using h.len, fun k => by
    show at_ (c.A.set nm (-1)) k = -1 ∨ (0 ≤ at_ (c.A.set nm (-1)) k ∧ at_ (c.A.set nm (-1)) k ≤ 4611686018427387904)
    rcases at_off (A := c.A) (b := nm) (k := k) with e | e
    · rw [e]; exact h.each k
    · exact .inl e⟩
theorem CkOk.on {c : Ck} (h : CkOk c) (nm : Nat) {a : Int} (h0 : 0 ≤ a) (h1 : a ≤ 4611686018427387904) : CkOk ⟨c.now, c.A.set nm a⟩ :=
  ⟨h.n0, h.n1, by simpa using h.len, fun k => by
    show at_ (c.A.set nm a) k = -1 ∨ (0 ≤ at_ (c.A.set nm a) k ∧ at_ (c.A.set nm a) k ≤ 4611686018427387904)
    rw [at_set]
    split
    · exact .inr ⟨h0, h1⟩
    · exact h.each k⟩
theorem clk_own {w w' : World} {C R mb : Nat} {fv fv' : Value} {m m' : Int → Option Value} {l l' : List Ring} {c : Ck} {A' : List Int} (h : IsClk w C R mb fv m l c) (hr : IsRings w' R mb fv' m' l') (hk : Kp (rb R mb fv) w w') (ho : ∀ k, fv'.ownBlock = some k → fv.ownBlock = some k ∨ w.heap.size ≤ k)
    (hh : Heap (g l') l'.length) (hp : Rep l' A') (hc : l'.length = cnt A') (hA : A'.length = c.A.length) (hok : CkOk ⟨c.now, A'⟩) : IsClk w' C R mb fv' m' l' ⟨c.now, A'⟩ := by
  have hC := h.box.lt
  refine ⟨?_, hr, hh, hp, hc, h.cR, h.cm, fun e => ?_, hok⟩
  · have : Blk w' C 97 #[.pointer (some ⟨R, 0, Option.none⟩), .int .i64 c.now, .int .i64 c.A.length] := (hk.block C hC (fun hb => by
      rcases hb with e | e | e
      · exact h.cR e
      · exact h.cm e
      · exact h.cf e)).trans h.box
    exact this.eq (by simp [hA])
  · rcases ho C e with h1 | h1
    · exact h.cf h1
    · omega
theorem CTurn.turns {w w' : World} {C R mb : Nat} {fv : Value} {m : Int → Option Value} {l : List Ring} {c c' : Ck} {B : Nat → Prop} {v : Value} (h : IsClk w C R mb fv m l c) (hB : ∀ k, B k ↔ cb C R mb fv k) (ht : CTurn w C R mb fv c' w') : Turns w B C c' v (.returned v) w' := by
  obtain ⟨fv', m', l', h1, h2, h3⟩ := ht
  refine ⟨rfl, cb C R mb fv', ⟨R, mb, fv', m', l', h1, fun k => Iff.rfl⟩, fun k hk => ?_, h2.more (fun k hk => (hB k).2 (.inr hk))⟩
  rcases hk with rfl | hk
  · exact .inl ((hB _).2 (.inl rfl))
  · exact (rb_step h3 k hk).imp (fun h => (hB k).2 (.inr h)) id
theorem drop_off (C R mb : Nat) (fv : Value) (m : Int → Option Value) (l : List Ring) (c : Ck) (nm : Int) (w : World) (h : IsClk w C R mb fv m l c) (hf : Fits nm) (hn : nm < 0 ∨ at_ c.A nm.toNat < 0) :
    Calls Try.prog 40 #[.agg #[.pointer (some ⟨R, 0, Option.none⟩)], .int .i64 nm] w (Gives w (.bool false)) := drop_not R mb fv m l nm w h.rings hf (off_none h hn)
theorem drop_on (C R mb : Nat) (fv : Value) (m : Int → Option Value) (l : List Ring) (c : Ck) (nm : Nat) (w : World) (h : IsClk w C R mb fv m l c) (hn : 0 ≤ at_ c.A nm) :
    Calls Try.prog 40 #[.agg #[.pointer (some ⟨R, 0, Option.none⟩)], .int .i64 nm] w (fun e w' => e = .returned (.bool true) ∧ CTurn w C R mb fv ⟨c.now, c.A.set nm (-1)⟩ w') := by
  obtain ⟨i, hi, e⟩ := on_at h hn
  refine (drop_yes R mb fv m l i nm w h.rings h.heap hi (by rw [e])).mono ?_
  rintro _ w' ⟨rfl, fv', m', l', a1, a2, a3, a4, a5, a6⟩
  have hc := cnt_off (Heap.get_at (at_lt hn)) hn
  exact ⟨rfl, fv', m', l', clk_own h a1 a2 a3 a5 (a6 _ h.rep) (by have := h.cnt; omega) (by simp) (h.ok.off nm), a2, a3⟩
theorem stop_nil (nm : Int) (w : World) : Calls Try.prog 14 #[.pointer Option.none, .int .i64 nm] w (Same w (.bool false)) := by
  go_enter Try.func14, Try.ntmps14
  go_wp2
  go_ret
  exact ⟨rfl, rfl⟩
theorem stop_off (B : Nat → Prop) (C : Nat) (c : Ck) (nm : Int) (w : World) (h : Clk w B C c) (hf : Fits nm) (hn : nm < 0 ∨ at_ c.A nm.toNat < 0) : Calls Try.prog 14 #[.pointer (some ⟨C, 0, Option.none⟩), .int .i64 nm] w (Gives w (.bool false)) := by
  obtain ⟨R, mb, fv, m, l, h, hB⟩ := h
  have c0 := h.box.cell 0
  simp at c0
  have K := Lib.hid (drop_off C R mb fv m l c nm w h hf hn)
  clear h hB
  go_enter Try.func14, Try.ntmps14
  go_wp2_with fail
  refine K.out.mono ?_
  rintro e w1 ⟨rfl, b1⟩
  have B1 := Lib.hid b1
  clear b1
  go_wp2
  go_ret
  exact ⟨rfl, B1.out⟩
theorem stop_on (B : Nat → Prop) (C : Nat) (c : Ck) (nm : Nat) (w : World) (h : Clk w B C c) (hn : 0 ≤ at_ c.A nm) : Calls Try.prog 14 #[.pointer (some ⟨C, 0, Option.none⟩), .int .i64 nm] w (Turns w B C ⟨c.now, c.A.set nm (-1)⟩ (.bool true)) := by
  obtain ⟨R, mb, fv, m, l, h, hB⟩ := h
  have c0 := h.box.cell 0
  simp at c0
  have K := Lib.hid (drop_on C R mb fv m l c nm w h hn)
  have H := Lib.hid h
  clear h
  go_enter Try.func14, Try.ntmps14
  go_wp2_with fail
  refine K.out.mono ?_
  rintro e w1 ⟨rfl, b1⟩
  have B1 := Lib.hid b1
  clear b1
  go_wp2
  go_ret
  exact B1.out.turns H.out hB
theorem new_bad (n : Int) (w : World) (h : n < 1 ∨ 64 < n) : Calls Try.prog 12 #[.int .i64 n] w (Same w (.tuple #[.pointer Option.none, .int .i64 2])) := by
  rcases (by omega : n < 1 ∨ (¬ n < 1 ∧ 64 < n)) with h1 | ⟨h1, h2⟩
  · clear h
    go_enter Try.func12, Try.ntmps12
    go_wp2
    go_ret2
    exact ⟨rfl, rfl⟩
  · clear h
    go_enter Try.func12, Try.ntmps12
    go_wp2
    go_ret2
    exact ⟨rfl, rfl⟩
def fresh (n : Nat) : Ck := ⟨0, List.replicate n (-1)⟩
theorem fresh_at (n k : Nat) : at_ (List.replicate n (-1)) k = -1 := by
  simp only [at_, List.getD_eq_getElem?_getD, List.getElem?_replicate]
  split <;> rfl
def News (w : World) (n : Nat) (e : Ending) (w' : World) : Prop := ∃ C B, e = .returned (.tuple #[.pointer (some ⟨C, 0, Option.none⟩), .int .i64 0]) ∧ Clk w' B C (fresh n) ∧ (∀ k, B k → w.heap.size ≤ k) ∧ Below w.heap.size w w'
set_option maxRecDepth 100000 in
set_option maxHeartbeats 1000000 in
theorem new_calls (n : Nat) (w : World) (h1 : 1 ≤ n) (h2 : n ≤ 64) : Calls Try.prog 12 #[.int .i64 n] w (News w n) := by
  have hmm := @run_makeMap Try.prog
  have q0 : ¬ ((n : Int) < 1) := by omega
  have q1 : ¬ ((64 : Int) < (n : Int)) := by omega
  go_enter Try.func12, Try.ntmps12
  go_wp2
  go_ret2
  have b1 := ((Below.refl _ w).alloc (Nat.le_refl _) (.map #[] 0))
  have b2 := b1.alloc (by simp) (.cells #[.slice Option.none 0 0, .map (some w.heap.size)] 93)
  have b3 := b2.alloc (by simp; omega) (.cells #[.pointer (some ⟨w.heap.size + 1, 0, Option.none⟩), .int .i64 0, .int .i64 n] 97)
  have X := Blk.new ((w.alloc (.map #[] 0)).alloc (.cells #[.slice Option.none 0 0, .map (some w.heap.size)] 93)) 97 #[.pointer (some ⟨w.heap.size + 1, 0, Option.none⟩), .int .i64 0, .int .i64 n]
  have Y := Blk.new (w.alloc (.map #[] 0)) 93 #[.slice Option.none 0 0, .map (some w.heap.size)]
  simp only [World.size_alloc] at X Y
  have M := ((MapOf.made w (.int .i64 0)).below ((Below.refl _ _).alloc (Nat.le_refl _) (.cells #[.slice Option.none 0 0, .map (some w.heap.size)] 93)))
  have M2 := M.below ((Below.refl _ _).alloc (Nat.le_refl _) (.cells #[.pointer (some ⟨w.heap.size + 1, 0, Option.none⟩), .int .i64 0, .int .i64 n] 97))
  refine ⟨w.heap.size + 1 + 1, cb (w.heap.size + 1 + 1) (w.heap.size + 1) w.heap.size (.slice Option.none 0 0), rfl, ⟨w.heap.size + 1, w.heap.size, .slice Option.none 0 0, fun _ => Option.none, [], ⟨X.eq (by simp [fresh]), ⟨Y.alloc _, .inl ⟨rfl, rfl⟩, M2, ⟨fun k hk => by simp at hk, fun nm hn => by simp at hn⟩, by omega, by simp [Value.ownBlock], by simp [Value.ownBlock], by simp, fun k hk => by simp at hk⟩, fun k h0 hk => by simp at hk, ⟨fun k hk => by simp at hk, fun nm a ha h0 => ?_⟩, ?_, by omega, by omega, by simp [Value.ownBlock], ⟨by simp [fresh], by simp [fresh], by simpa [fresh] using h2, fun k => .inl (fresh_at n k)⟩⟩, fun k => Iff.rfl⟩, fun k hk => ?_, b3⟩
  · have := at_get ha
    rw [show (fresh n).A = List.replicate n (-1) from rfl, fresh_at] at this
    omega
  · exact (cnt_zero (fun k => by rw [show (fresh n).A = List.replicate n (-1) from rfl, fresh_at]; omega)).symm
  · rcases hk with rfl | rfl | rfl | hk
    · omega
    · omega
    · omega
    · simp [Value.ownBlock] at hk
theorem set_nil (nm a : Int) (w : World) : Calls Try.prog 13 #[.pointer Option.none, .int .i64 nm, .int .i64 a] w (Same w (.int .i64 1)) := by
  go_enter Try.func13, Try.ntmps13
  go_wp2
  go_ret
  exact ⟨rfl, rfl⟩
theorem set_kind (B : Nat → Prop) (C : Nat) (c : Ck) (nm a : Int) (w : World) (h : Clk w B C c) (hn : nm < 0 ∨ (c.A.length : Int) ≤ nm) : Calls Try.prog 13 #[.pointer (some ⟨C, 0, Option.none⟩), .int .i64 nm, .int .i64 a] w (Same w (.int .i64 8)) := by
  obtain ⟨R, mb, fv, m, l, h, hB⟩ := h
  have c2 := h.box.cell 2
  simp at c2
  clear h hB
  rcases (by omega : nm < 0 ∨ (¬ nm < 0 ∧ (c.A.length : Int) ≤ nm)) with h1 | ⟨h1, h2⟩
  · clear hn
    go_enter Try.func13, Try.ntmps13
    go_wp2
    go_ret
    exact ⟨rfl, rfl⟩
  · clear hn
    go_enter Try.func13, Try.ntmps13
    go_wp2
    go_ret
    exact ⟨rfl, rfl⟩
theorem set_range (B : Nat → Prop) (C : Nat) (c : Ck) (nm : Nat) (a : Int) (w : World) (h : Clk w B C c) (hn : nm < c.A.length) (ha : a < c.now ∨ 4611686018427387904 < a) : Calls Try.prog 13 #[.pointer (some ⟨C, 0, Option.none⟩), .int .i64 nm, .int .i64 a] w (Same w (.int .i64 3)) := by
  obtain ⟨R, mb, fv, m, l, h, hB⟩ := h
  have c1 := h.box.cell 1
  have c2 := h.box.cell 2
  simp at c1 c2
  clear h hB
  have q0 : ¬ ((nm : Int) < 0) := by omega
  have q1 : ¬ ((c.A.length : Int) ≤ (nm : Int)) := by omega
  rcases (by omega : a < c.now ∨ (¬ a < c.now ∧ 4611686018427387904 < a)) with h1 | ⟨h1, h2⟩
  · clear ha
    go_enter Try.func13, Try.ntmps13
    go_wp2
    go_ret
    exact ⟨rfl, rfl⟩
  · clear ha
    go_enter Try.func13, Try.ntmps13
    go_wp2
    go_ret
    exact ⟨rfl, rfl⟩
theorem mk100 (v : Value) (W : World) : (Instr.makeInterface 100 v).run Try.prog W = .ok (.iface 100 v) W := by
  simp [Instr.makeInterface, run_underlying Try.underlying100, Result.andThen]
theorem pushed_clk {w w' : World} {C R mb : Nat} {fv : Value} {m : Int → Option Value} {l : List Ring} {c : Ck} {nm : Nat} {a : Int} (h : IsClk w C R mb fv m l c) (hn : nm < c.A.length) (hoff : at_ c.A nm = -1) (h0 : 0 ≤ a) (h1 : a ≤ 4611686018427387904) (hp : Pushed w R mb fv l ⟨a, nm⟩ w') : CTurn w C R mb fv ⟨c.now, c.A.set nm a⟩ w' := by
  obtain ⟨fv', m', l', a1, a2, a3, a4, a5, a6⟩ := hp
  have hg := Heap.get_at hn
  rw [hoff] at hg
  have := cnt_on (a := a) hg (by omega) h0
  exact ⟨fv', m', l', clk_own h a1 a2 a3 a5 (a6 _ (rep_push h.rep hg (by omega) h0)) (by have := h.cnt; omega) (by simp) (h.ok.on nm h0 h1), a2, a3⟩
theorem CTurn.then {w w1 w2 : World} {C R mb : Nat} {fv fv1 : Value} {c2 : Ck} (hk : Kp (rb R mb fv) w w1) (ho : ∀ k, fv1.ownBlock = some k → fv.ownBlock = some k ∨ w.heap.size ≤ k) (h : CTurn w1 C R mb fv1 c2 w2) : CTurn w C R mb fv c2 w2 := by
  obtain ⟨fv', m', l', a1, a2, a3⟩ := h
  exact ⟨fv', m', l', a1, hk.trans a2 (rb_step ho), fun k hk2 => (a3 k hk2).elim (ho k) (fun h => .inr (Nat.le_trans hk.size h))⟩
set_option maxRecDepth 100000 in
set_option maxHeartbeats 2000000 in
theorem set_calls (B : Nat → Prop) (C : Nat) (c : Ck) (nm : Nat) (a : Int) (w : World) (h : Clk w B C c) (hn : nm < c.A.length) (ha : c.now ≤ a) (hb : a ≤ 4611686018427387904) : Calls Try.prog 13 #[.pointer (some ⟨C, 0, Option.none⟩), .int .i64 nm, .int .i64 a] w (Turns w B C ⟨c.now, c.A.set nm a⟩ (.int .i64 0)) := by
  obtain ⟨R, mb, fv, m, l, h, hB⟩ := h
  have c0 := h.box.cell 0
  have c1 := h.box.cell 1
  have c2 := h.box.cell 2
  simp at c0 c1 c2
  have hlen := h.ok.len
  have q0 : ¬ ((nm : Int) < 0) := by omega
  have q1 : ¬ ((c.A.length : Int) ≤ (nm : Int)) := by omega
  have q2 : ¬ (a < c.now) := by omega
  have q3 : ¬ (4611686018427387904 < a) := by omega
  have h0 : 0 ≤ a := Int.le_trans h.ok.n0 ha
  have mk := mk89
  have mk2 := mk100
  have hft : Fits (nm : Int) := ⟨by omega, by omega⟩
  have H := Lib.hid h
  -- the drop, whether it was set or not
  have KD : Hid (Calls Try.prog 40 #[.agg #[.pointer (some ⟨R, 0, Option.none⟩)], .int .i64 nm] w (fun e w' => (∃ bv, e = .returned (.bool bv)) ∧ CTurn w C R mb fv ⟨c.now, c.A.set nm (-1)⟩ w')) := Lib.hid (by
    by_cases hon : 0 ≤ at_ c.A nm
    · exact (drop_on C R mb fv m l c nm w h hon).mono fun e w' ⟨he, ht⟩ => ⟨⟨_, he⟩, ht⟩
    · refine (drop_off C R mb fv m l c nm w h hft (.inr (by rw [Int.toNat_natCast]; omega))).mono fun e w' ⟨he, hb⟩ => ⟨⟨_, he⟩, ?_⟩
      have e1 : at_ c.A nm = -1 := (h.ok.each nm).resolve_right (by omega)
      rw [set_off e1]
      exact ⟨fv, m, l, h.below hb, Kp.of_below hb, fun k hk => .inl hk⟩)
  clear h
  go_enter Try.func13, Try.ntmps13
  go_wp2_with fail
  refine KD.out.mono ?_
  rintro e w1 ⟨⟨bv, rfl⟩, fv1, m1, l1, h1, k1, o1⟩
  have d0 := h1.box.cell 0
  simp at d0
  have hA1 : at_ (c.A.set nm (-1)) nm = -1 := by rw [at_set, if_pos ⟨rfl, hn⟩]
  have KP := Lib.hid (hpush_calls R mb fv1 m1 l1 ⟨a, nm⟩ w1 h1.rings h1.heap (off_none h1 (.inr (by rw [Int.toNat_natCast]; show at_ (c.A.set nm (-1)) nm < 0; omega))) hft (by have := h1.cnt; have := cnt_le (c.A.set nm (-1)); have e2 : l1.length = cnt (c.A.set nm (-1)) := h1.cnt; simp at this; omega))
  have PC := Lib.hid (fun (w' : World) (hp : Pushed w1 R mb fv1 l1 ⟨a, nm⟩ w') => (pushed_clk h1 (nm := nm) (a := a) (by simpa using hn) hA1 h0 hb hp).then k1 o1)
  clear h1 k1 o1 hA1
  go_wp2_with fail
  refine KP.out.mono ?_
  rintro e w2 ⟨rfl, hp⟩
  have T := Lib.hid (PC.out w2 hp)
  clear hp
  go_wp2
  go_ret
  have t := T.out
  simp only [List.set_set] at t
  exact t.turns H.out hB
end Go.Proofs.Ytiphkgkhfomcaaa.Alarm
