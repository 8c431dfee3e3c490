/- Chapter 13 (alarm): slices.Clone over alarms; Clone. -/
import Derived.Test.YtiphkgkhfomcaaaAlarmKnown
import Derived.Test.YtiphkgkhfomcaaaBytes
import Derived.Outline
set_option linter.unusedSimpArgs false
set_option linter.unusedVariables false
attribute [local go_sem ↓] Go.wp_at_zero Go.wp_at_succ
namespace Go.Proofs.Ytiphkgkhfomcaaa.Alarm
open Go.BigFrame Go.RowKit Go.OpenShut Go.Proofs.Ytiphkgkhfomcaaa.Aid Go.Proofs.Ytiphkgkhfomcaaa.DMap Go.Proofs.Ytiphkgkhfomcaaa.Heap
theorem eql_nil (a : Option Addr) (l c : Nat) (w : World) : (binOp .eql 91 (.slice a l c) (.slice Option.none 0 0)).run Try.prog w = .ok (.bool a.isNone) w := by
  simp only [binOp]
  simp [run_equal_slice_nil w 91 100 a l c Try.underlying91]
attribute [local go_sem high] eql_nil
theorem row_new (w : World) : RowOf 100 2 encR (w.alloc (.cells #[] 100)) (.slice (some ⟨w.heap.size, 0, Option.none⟩) 0 0) ([] : List Ring) :=
  .inr ⟨w.heap.size, 0, #[], rfl, Nat.le_refl _, by omega, heap_alloc_new w _, by simp, rfl⟩
def FreshR (w : World) (l : List Ring) (e : Ending) (w' : World) : Prop := ∃ v, e = .returned v ∧ RowOf 100 2 encR w' v l ∧ Below w.heap.size w w' ∧ ∀ k, v.ownBlock = some k → w.heap.size ≤ k
set_option maxRecDepth 100000 in
set_option maxHeartbeats 4000000 in
theorem rclone_calls (v : Value) (l : List Ring) (w : World) (h : RowOf 100 2 encR w v l) (hl : l.length ≤ 1000) : Calls Try.prog 45 #[v] w (FreshR w l) := by
  obtain ⟨A, cap, h1, h2, hR⟩ := h.reps encR_len
  have hA : A = Option.none → cap = 0 ∧ l = [] := fun hA => by
    obtain ⟨h0, hx⟩ | ⟨b, cap, cur, h0, _⟩ := h
    · rw [h1] at h0
      injection h0 with _ _ h5
      exact ⟨h5, hx⟩
    · rw [h1, hA] at h0
      injection h0 with h4
      cases h4
  subst h1
  clear h h2
  cases A with
  | none =>
    obtain ⟨rfl, rfl⟩ := hA rfl
    clear hR hA
    go_enter Try.func45, Try.ntmps45
    go_wp2
    go_ret
    exact ⟨_, rfl, .inl ⟨rfl, rfl⟩, Below.refl _ _, fun k hk => by simp [Value.ownBlock] at hk⟩
  | some ad =>
    obtain ⟨i0, hi, hz0, hz1, hz2⟩ := info_parts info100
    have R := Lib.hid hR
    obtain ⟨N, hN⟩ : ∃ N, l.length = N := ⟨_, rfl⟩
    have HN := Lib.hid hN
    rw [hN] at hl ⊢
    clear hA hR hN
    go_enter Try.func45, Try.ntmps45
    go_wp2_with (at_builtin; refine wpList_append_any (by rfl) _ _ 91 (by rfl) i0 _ 16 Try.underlying91 hi hz0 hz1 hz2 (by decide) (by decide) encR_len encR_one (.slice (some ⟨w.heap.size, 0, Option.none⟩) 0 0) ([] : List Ring) (by rfl) (row_new w) _ N cap l HN.out (by rfl) (fun h => by cases h) (R.out.below ((Below.refl _ w).alloc (Nat.le_refl _) _)) ?k2 ?k3 ?k4)
    case k2 => simp only [List.length_nil]; unfold maxLen; omega
    case k3 => simp only [List.length_nil]; omega
    case k4 =>
      intro v2 w2 hr ha
      have HR := Lib.hid hr
      have HA := Lib.hid ha
      clear hr ha
      go_wp2
      go_ret
      refine ⟨v2, rfl, HR.out, below_app ((Below.refl _ w).alloc (Nat.le_refl _) _) HA.out (fun k hk => by
        have : w.heap.size = k := by simpa [Value.ownBlock] using hk
        omega), fun k hk => ?_⟩
      rcases HA.out.own k hk with h1 | h1
      · have : w.heap.size = k := by simpa [Value.ownBlock] using h1
        omega
      · simp at h1
        omega
/-- Within a clone's loop. -/
structure Cl (w wr : World) (R2 mb2 : Nat) (v : Value) (m2 : Int → Option Value) (l : List Ring) (k : Nat) : Prop where
  box : Blk wr R2 93 #[v, .map (some mb2)]
  row : RowOf 100 2 encR wr v l
  map : MapOf wr mb2 (.int .i64 0) m2 k
  plc : Plc m2 (l.take k)
  bel : Below w.heap.size w wr
  r0 : w.heap.size ≤ R2
  r1 : w.heap.size ≤ mb2
  r2 : ∀ j, v.ownBlock = some j → w.heap.size ≤ j ∧ j ≠ R2 ∧ j ≠ mb2
  r3 : R2 ≠ mb2
theorem Cl.below {w wr w2 : World} {R2 mb2 : Nat} {v : Value} {m2 : Int → Option Value} {l : List Ring} {k : Nat} (h : Cl w wr R2 mb2 v m2 l k) (hb : Below wr.heap.size wr w2) : Cl w w2 R2 mb2 v m2 l k :=
  ⟨h.box.below hb h.box.lt, h.row.below hb, h.map.below hb, h.plc, below_then h.bel h.bel.size hb, h.r0, h.r1, h.r2, h.r3⟩
theorem some_ne {a j mb : Nat} (h1 : a ≤ mb) (h2 : j < a) : some j ≠ some mb := fun e => by
  injection e with e
  omega
theorem Cl.put {w wr w2 : World} {R2 mb2 : Nat} {v : Value} {m2 : Int → Option Value} {l : List Ring} {k : Nat} (h : Cl w wr R2 mb2 v m2 l k) (hk : k < l.length) (hx : m2 (g l k).name = Option.none) (hm : MapOf w2 mb2 (.int .i64 0) (put m2 (g l k).name (.int .i64 k)) (k + 1)) (hg : wr.grownBy w2 (some mb2)) : Cl w w2 R2 mb2 v (put m2 (g l k).name (.int .i64 k)) l (k + 1) := by
  have hl : (l.take k).length = k := by simp; omega
  have P := plc_push h.plc (x := g l k) hx
  rw [hl] at P
  have e : l.take k ++ [g l k] = l.take (k + 1) := by
    rw [List.take_add_one, get_g hk]
    rfl
  rw [e] at P
  exact ⟨h.box.grown hg (fun e => h.r3 (by simpa using e)), h.row.same (fun j hj => hg.block j (h.row.lt j hj) (fun e => (h.r2 j hj).2.2 (by simpa using e))), hm, P, ⟨hg.os.trans h.bel.os, hg.tape.trans h.bel.tape, hg.output.trans h.bel.output, Nat.le_trans h.bel.size hg.size, fun j hj => (hg.block j (Nat.lt_of_lt_of_le hj h.bel.size) (some_ne h.r1 hj)).trans (h.bel.block j hj)⟩, h.r0, h.r1, h.r2, h.r3⟩
theorem cl_new {w w1 : World} {v : Value} {l : List Ring} (hr : RowOf 100 2 encR w1 v l) (hb : Below w.heap.size w w1) (ho : ∀ k, v.ownBlock = some k → w.heap.size ≤ k) : Cl w ((w1.alloc (.map #[] 0)).alloc (.cells #[v, .map (some w1.heap.size)] 93)) (w1.heap.size + 1) w1.heap.size v (fun _ => Option.none) l 0 := by
  have hs := hb.size
  have b1 : Below w1.heap.size w1 (w1.alloc (.map #[] 0)) := (Below.refl _ w1).alloc (Nat.le_refl _) _
  have b2 : Below (w1.alloc (.map #[] 0)).heap.size (w1.alloc (.map #[] 0)) ((w1.alloc (.map #[] 0)).alloc (.cells #[v, .map (some w1.heap.size)] 93)) := (Below.refl _ _).alloc (Nat.le_refl _) _
  have X := Blk.new (w1.alloc (.map #[] 0)) 93 #[v, .map (some w1.heap.size)]
  rw [World.size_alloc] at X
  refine ⟨X, (hr.below b1).below b2, (MapOf.made w1 (.int .i64 0)).below b2, ⟨fun k hk => by simp at hk, fun nm hn => by simp at hn⟩, below_then (below_then hb hs b1) (by have := b1.size; omega) b2, by omega, hs, fun j hj => ?_, by omega⟩
  have := hr.lt j hj
  exact ⟨ho j hj, by omega, by omega⟩
def Cloned (w : World) (c : Ck) (e : Ending) (w' : World) : Prop := ∃ C B, e = .returned (.pointer (some ⟨C, 0, Option.none⟩)) ∧ Clk w' B C c ∧ (∀ k, B k → w.heap.size ≤ k) ∧ Below w.heap.size w w'
theorem cl_end {w wr : World} {C R mb R2 mb2 : Nat} {fv v : Value} {m m2 : Int → Option Value} {l : List Ring} {c : Ck} (h : IsClk w C R mb fv m l c) (hc : Cl w wr R2 mb2 v m2 l l.length) : Cloned w c (.returned (.pointer (some ⟨wr.heap.size, 0, Option.none⟩))) (wr.alloc (.cells #[.pointer (some ⟨R2, 0, Option.none⟩), .int .i64 c.now, .int .i64 c.A.length] 97)) := by
  have hb : Below wr.heap.size wr (wr.alloc (.cells #[.pointer (some ⟨R2, 0, Option.none⟩), .int .i64 c.now, .int .i64 c.A.length] 97)) := (Below.refl _ wr).alloc (Nat.le_refl _) _
  have h2 := hc.below hb
  have X := Blk.new wr 97 #[.pointer (some ⟨R2, 0, Option.none⟩), .int .i64 c.now, .int .i64 c.A.length]
  have hP := h2.plc
  rw [List.take_length] at hP
  have l1 := hc.box.lt
  have l2 := hc.map.lt
  have hs := hc.bel.size
  refine ⟨wr.heap.size, cb wr.heap.size R2 mb2 v, rfl, ⟨R2, mb2, v, m2, l, ⟨X, ⟨h2.box, h2.row, h2.map, hP, hc.r3, fun e => (hc.r2 _ e).2.1 rfl, fun e => (hc.r2 _ e).2.2 rfl, h.rings.len, h.rings.fit⟩, h.heap, h.rep, h.cnt, by omega, by omega, fun e => by have := hc.row.lt _ e; omega, h.ok⟩, fun k => Iff.rfl⟩, fun k hk => ?_, h2.bel⟩
  rcases hk with rfl | rfl | rfl | hk
  · exact hs
  · exact hc.r0
  · exact hc.r1
  · exact (hc.r2 k hk).1
theorem cloned_drew {w w' : World} {c : Ck} {e : Ending} (h : Cloned w c e w') : Cloned w c e w'.drew := by
  obtain ⟨C, B, h1, h2, h3, h4⟩ := h
  exact ⟨C, B, h1, h2.same (fun _ _ => rfl), h3, below_drew h4⟩
set_option maxRecDepth 100000 in
set_option maxHeartbeats 4000000 in
theorem clone_calls (B : Nat → Prop) (C : Nat) (c : Ck) (w : World) (h : Clk w B C c) : Calls Try.prog 21 #[.pointer (some ⟨C, 0, Option.none⟩)] w (Cloned w c) := by
  obtain ⟨R, mb, fv, m, l, h, hB⟩ := h
  have hmm := @run_makeMap Try.prog
  have c0 := h.box.cell 0
  have d0 := h.rings.box.cell 0
  simp at c0 d0
  have hlen := h.rings.len
  have K := Lib.hid (rclone_calls fv l w h.rings.row hlen)
  have H := Lib.hid h
  have hp := Lib.hid h.rings.plc
  have hfit := Lib.hid h.rings.fit
  have hCl := h.box.lt
  clear h hB
  obtain ⟨A0, c0', hfv⟩ : ∃ A0 c0', fv = .slice A0 l.length c0' := by
    obtain ⟨A, cc, h1, _⟩ := H.out.rings.row.slice
    exact ⟨A, cc, h1⟩
  subst hfv
  go_enter Try.func21, Try.ntmps21
  go_wp2_with fail
  refine K.out.mono ?_
  rintro e w1 ⟨v, rfl, hr1, b1, o1⟩
  obtain ⟨A1, c1, rfl, _⟩ := hr1.slice
  have S0 := Lib.hid (cl_new hr1 b1 o1)
  clear hr1 b1 o1 c0 d0 K
  go_upto_region 4 with fail
  revert S0
  generalize (w1.alloc (.map #[] 0)).alloc (.cells #[.slice A1 l.length c1, .map (some w1.heap.size)] 93) = w2
  intro S0
  have x0 := S0.out.box.cell 0
  simp at x0
  generalize w1.heap.size = mb2 at *
  go_wp2
  go_loopw [25] (fun iv wr => ∃ (k : Nat) (m2 : Int → Option Value), iv = .int .i64 k ∧ k ≤ l.length ∧ Hid (Cl w wr (mb2 + 1) mb2 (.slice A1 l.length c1) m2 l k)) (fun iv _ => l.length - (intOf iv).toNat)
  case atStart => exact ⟨0, _, rfl, by omega, S0⟩
  case round =>
    obtain ⟨k, m2, rfl, hk, hS⟩ := hrel
    clear S0 x0
    by_cases hkl : k < l.length
    · obtain ⟨b, rfl⟩ : ∃ b, A1 = some ⟨b, 0, Option.none⟩ := by
        obtain ⟨_, h0⟩ | ⟨b, cap, cur, h0, _⟩ := hS.out.row
        · rw [h0] at hkl; simp at hkl
        · injection h0 with h0; exact ⟨b, h0⟩
      obtain ⟨n0, n1⟩ := row_cells hS.out.row k hkl
      have fk := hfit.out k hkl
      have hnone : m2 (g l k).name = Option.none := hS.out.plc.none (fun j hj e => by
        have hj2 : j < k := by simp at hj; omega
        rw [g_take hj2] at e
        have := hp.out.inj (by omega) hkl e
        omega)
      have PUT := Lib.hid (fun (w2 : World) (hx : Cl w (wr.alloc (.cells #[.int .i64 (g l k).at_, .int .i64 (g l k).name] 100)).drew (mb2 + 1) mb2 (.slice (some ⟨b, 0, Option.none⟩) l.length c1) m2 l k) hm hg => hx.put (w2 := w2) hkl hnone hm hg)
      have ba : Below wr.heap.size wr (wr.alloc (.cells #[.int .i64 (g l k).at_, .int .i64 (g l k).name] 100)) := (Below.refl _ wr).alloc (Nat.le_refl _) _
      have Sa := hS.out.below (below_drew ba)
      obtain ⟨wb, rb, mbb, gb, zb⟩ := Sa.map.store Try.underlying90 (by unfold maxLen; omega) fk (.int .i64 k)
      rw [hnone] at mbb
      simp only [Option.isSome_none, Bool.false_eq_true, if_false] at mbb
      have SP := Lib.hid (PUT.out wb Sa mbb gb)
      have X1 := (hS.out.below ba).box.cell 1
      have Y1 := (Blk.new wr 100 #[.int .i64 (g l k).at_, .int .i64 (g l k).name]).cell 1
      generalize hx : g l k = x at *
      obtain ⟨a, nm⟩ := x
      simp only at n0 n1 rb X1 Y1
      have q0 : (0 : Int) ≤ (k : Int) := by omega
      have q1 : (k : Int) < (l.length : Int) := by omega
      clear Sa mbb gb zb hx hnone fk PUT ba
      obtain ⟨wa, hwa⟩ : ∃ wa, wa = wr.alloc (.cells #[.int .i64 a, .int .i64 nm] 100) := ⟨_, rfl⟩
      rw [← hwa] at X1 Y1 rb
      simp at X1 Y1
      go_upto_region 7 with fail
      rw [← hwa]
      clear hwa
      go_region
      all_goals
        go_wp2
        go_roundw
        case rel => exact ⟨k + 1, _, by go_num, by omega, SP⟩
        case measure => simp [intOf]; omega
    · obtain rfl : k = l.length := by omega
      have E := Lib.hid (cl_end H.out hS.out)
      have HC := (H.out.below hS.out.bel).box
      have y1 := HC.cell 1
      have y2 := HC.cell 2
      simp at y1 y2
      go_upto_region 9 with fail
      go_region
      all_goals
        go_wp2
        go_ret
        exact cloned_drew E.out
end Go.Proofs.Ytiphkgkhfomcaaa.Alarm
