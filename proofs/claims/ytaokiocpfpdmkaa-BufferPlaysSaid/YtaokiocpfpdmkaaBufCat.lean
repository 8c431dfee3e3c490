/- Chapter 21 (buffer): slices.Grow of nil and slices.Concat of two. -/
import Derived.Test.YtaokiocpfpdmkaaBufPut
import Derived.Lib.AppendZerosOnto
import Derived.LoopN
set_option linter.unusedSimpArgs false
set_option linter.unusedVariables false
attribute [local go_sem ↓] Go.wp_at_zero Go.wp_at_succ
namespace Go.Proofs.Ytaokiocpfpdmkaa.Buff
open Go.BigFrame Go.RowKit Go.OpenShut Go.Proofs.Ytaokiocpfpdmkaa.Aid Go.Proofs.Ytaokiocpfpdmkaa.Spans
open Led (Kept kept_refl kept_set kept_drewN kept_drew kept_below below_kept)
/-- Bytes of the call's own. -/
def Fresh (w : World) (xs : List Int) (e : Ending) (w' : World) : Prop := ∃ v, e = .returned v ∧ RowOf 5 1 encB w' v xs ∧ Below w.heap.size w w' ∧ ∀ k, v.ownBlock = some k → w.heap.size ≤ k
theorem zero_size (n : Nat) : (Builtin.zeroCells (Value.int IntKind.u8 0).cells n).size = n := by
  have : (Builtin.zeroCells (Value.int IntKind.u8 0).cells n).toList.length = n := by
    rw [show (Value.int IntKind.u8 0).cells = #[Value.int .u8 0] from rfl]
    simp [Builtin.zeroCells, toList_madeCells_one]
  simpa using this
set_option maxRecDepth 100000 in
theorem grow_calls (n : Nat) (w : World) (h : n ≤ 1000000) : Calls Try.prog 82 #[.slice Option.none 0 0, .int .i64 n] w (Fresh w []) := by
  obtain ⟨i0, hi, hz0, hz1, hz2⟩ := info_parts info5
  rcases Nat.eq_zero_or_pos n with h0 | h0
  · subst h0
    go_enter Try.func82, Try.ntmps82
    go_wp2
    go_ret
    exact ⟨_, rfl, .inl ⟨rfl, rfl⟩, Below.refl _ _, by simp [Value.ownBlock]⟩
  · have hr := fun ty => Lib.run_append_nil_zeros (P := Try.prog) w 60 3 ty 5 i0 (.int .u8 0) .i64 .i64 Try.underlying60 (by kernel_rfl) hi hz0 n h0 (by rw [hz1]; omega) (by omega) (by rw [hz2]; omega)
    have g1 := grownCap_ge w n 0 5
    have g2 := grownCap_le_maxLen w n 0 5 (by unfold maxLen; omega)
    generalize hG : grownCap w n 0 5 = G at *
    clear hG
    have k0 : ¬ ((n : Int) < 0) := by omega
    have k1 : (0 : Int) < (n : Int) := by omega
    have k2 : (n : Int) ≤ 1000000 := by omega
    have s1 : IntKind.i64.wrap (n : Int) = n := IntWalk.i64_in _ (by omega)
    have Z := Lib.hid (show ((Builtin.zeroCells (Value.int IntKind.u8 0).cells n ++ Builtin.zeroCells (Value.int IntKind.u8 0).cells (G - n)).size = G) by rw [Array.size_append, zero_size, zero_size]; omega)
    generalize (Builtin.zeroCells (Value.int IntKind.u8 0).cells n ++ Builtin.zeroCells (Value.int IntKind.u8 0).cells (G - n)) = cs at *
    go_enter Try.func82, Try.ntmps82
    go_wp2_with (at_builtin; refine Lib.wpList_append_run _ rfl _ _ _ _ rfl _ _ rfl rfl _ _ (hr _) ?_)
    go_ret
    refine ⟨_, rfl, .inr ⟨w.heap.size, G, cs, rfl, by simp, by unfold maxLen at g2; omega, heap_alloc_new w.drew (.cells cs 5), by rw [Z.out]; omega, by simp⟩, ?_, fun k hk => ?_⟩
    · exact ((Below.refl w.heap.size w).drew).alloc (Nat.le_refl _) _
    · have : w.heap.size = k := by simpa [Value.ownBlock] using hk
      omega
theorem below_app {w0 w w' : World} {B : Nat} {v v' : Value} (hb : Below B w0 w) (hs : B ≤ w.heap.size) (h : App w w' v v') (hv : ∀ k, v.ownBlock = some k → B ≤ k) : Below B w0 w' :=
  hb.trans ⟨h.os, h.tape, h.output, h.size, fun k hk => h.block k (Nat.lt_of_lt_of_le hk hs) (fun e => by have := hv k e; omega)⟩
set_option maxRecDepth 100000 in
set_option maxHeartbeats 4000000 in
theorem concat_calls (lb : Nat) (A1 A2 : Option Addr) (n1 n2 c1 c2 : Nat) (xs ys : List Int) (t : TypeId) (w : World) (hb : Blk w lb t #[.slice A1 n1 c1, .slice A2 n2 c2]) (hx : xs.length = n1) (hy : ys.length = n2)
    (h1 : A1 = Option.none → c1 = 0) (h2 : A2 = Option.none → c2 = 0) (hl : n1 + n2 ≤ 1000000) (r1 : Reps w A1 1 encB xs) (r2 : Reps w A2 1 encB ys) :
    Calls Try.prog 70 #[.slice (some ⟨lb, 0, Option.none⟩) 2 2] w (Fresh w (xs ++ ys)) := by
  obtain ⟨i0, hi, hz0, hz1, hz2⟩ := info_parts info5
  have x0 := hb.cell 0
  have x1 := hb.cell 1
  simp at x0 x1
  have HB := Lib.hid hb
  have R1 := Lib.hid r1
  have R2 := Lib.hid r2
  have HX := Lib.hid hx
  have HY := Lib.hid hy
  have f0 : (0 : Int) ≤ (n1 : Int) := by omega
  have f1 : (0 : Int) ≤ (n1 : Int) + (n2 : Int) := by omega
  have s0 : IntKind.i64.wrap (0 + (n1 : Int)) = n1 := by rw [Int.zero_add]; exact IntWalk.i64_in _ (by omega)
  have s1 : IntKind.i64.wrap ((n1 : Int) + (n2 : Int)) = (n1 : Int) + (n2 : Int) := IntWalk.i64_in _ (by omega)
  have s2 : IntKind.i64.wrap (n1 : Int) = (n1 : Int) := IntWalk.i64_in _ (by omega)
  have G := Lib.hid (show Calls Try.prog 82 #[.slice Option.none 0 0, .int .i64 ((n1 : Int) + (n2 : Int))] w (Fresh w []) by have := grow_calls (n1 + n2) w (by omega); rwa [Int.natCast_add] at this)
  clear hb r1 r2 hx hy
  go_enter Try.func70, Try.ntmps70
  go_wp2_with fail
  refine wp_loop_rounds 3 ?_
  rw [rounds_succ]
  go_wp2_with fail
  rw [rounds_succ]
  go_wp2_with fail
  rw [rounds_succ]
  go_wp2_with fail
  refine G.out.mono ?_
  rintro e w1 ⟨v1, rfl, q1, b1, o1⟩
  have x0 := ((HB.out.below b1 HB.out.lt).cell 0)
  have x1 := ((HB.out.below b1 HB.out.lt).cell 1)
  simp at x0 x1
  have HB1 := Lib.hid (HB.out.below b1 HB.out.lt)
  have Q1 := Lib.hid q1
  have B1 := Lib.hid b1
  have O1 := Lib.hid o1
  clear q1 b1 o1
  go_wp2_with fail
  refine wp_loop_rounds 3 ?_
  rw [rounds_succ]
  go_wp2_with (at_builtin; refine wpList_append_any (by rfl) _ _ 60 (by rfl) i0 _ 1 Try.underlying60 hi hz0 hz1 hz2 (by decide) (by decide) encB_len encB_one v1 ([] : List Int) (by rfl) Q1.out A1 n1 c1 xs HX.out (by rfl) h1 (R1.out.below B1.out) ?k2 ?k3 ?k4)
  case k2 => simp only [List.length_nil]; unfold maxLen; omega
  case k3 => simp only [List.length_nil]; omega
  case k4 =>
    intro v2 w2 q2 a2
    have hB2 := below_app B1.out B1.out.size a2 O1.out
    have HB2 := Lib.hid (HB.out.below hB2 HB.out.lt)
    have y0 := HB2.out.cell 0
    have y1 := HB2.out.cell 1
    simp at y0 y1
    have O2 := Lib.hid (show ∀ k, v2.ownBlock = some k → w.heap.size ≤ k from fun k hk => (a2.own k hk).elim (fun h => O1.out k h) (fun h => Nat.le_trans B1.out.size h))
    have Q2 := Lib.hid q2
    have B2 := Lib.hid hB2
    clear q2 a2 hB2
    go_wp2_with fail
    rw [rounds_succ]
    go_wp2_with (at_builtin; refine wpList_append_any (by rfl) _ _ 60 (by rfl) i0 _ 1 Try.underlying60 hi hz0 hz1 hz2 (by decide) (by decide) encB_len encB_one v2 ([] ++ xs) (by rfl) Q2.out A2 n2 c2 ys HY.out (by rfl) h2 (R2.out.below B2.out) ?k2 ?k3 ?k4)
    case k2 => simp only [List.nil_append, HX.out]; unfold maxLen; omega
    case k3 => simp only [List.nil_append, HX.out]; omega
    case k4 =>
      intro v3 w3 q3 a3
      have Q3 := Lib.hid q3
      have A3 := Lib.hid a3
      clear q3 a3
      go_wp2_with fail
      rw [rounds_succ]
      go_wp2_with fail
      go_ret
      refine ⟨v3, rfl, Q3.out, below_app B2.out B2.out.size A3.out O2.out, fun k hk => ?_⟩
      rcases A3.out.own k hk with h | h
      · exact O2.out k h
      · exact Nat.le_trans B2.out.size h
end Go.Proofs.Ytaokiocpfpdmkaa.Buff
