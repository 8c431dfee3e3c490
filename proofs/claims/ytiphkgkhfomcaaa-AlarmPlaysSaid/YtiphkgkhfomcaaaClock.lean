/- Chapter 13 (alarm): a clock as it lies in memory; drop, New, Now, Len, Next, At. -/
import Derived.Test.YtiphkgkhfomcaaaRemove
set_option linter.unusedSimpArgs false
set_option linter.unusedVariables false
attribute [local go_sem ↓] Go.wp_at_zero Go.wp_at_succ
namespace Go.Proofs.Ytiphkgkhfomcaaa.Alarm
open Go.BigFrame Go.RowKit Go.OpenShut Go.Proofs.Ytiphkgkhfomcaaa.Aid Go.Proofs.Ytiphkgkhfomcaaa.DMap Go.Proofs.Ytiphkgkhfomcaaa.Heap
theorem zero3 (w : World) : (zeroValue 3).run Try.prog w = .ok (.int .i64 0) w := by kernel_rfl
theorem mk89 (v : Value) (W : World) : (Instr.makeInterface 89 v).run Try.prog W = .ok (.iface 89 v) W := by
  simp [Instr.makeInterface, run_underlying Try.underlying89, Result.andThen]
set_option maxHeartbeats 1000000 in
theorem drop_not (R mb : Nat) (fv : Value) (m : Int → Option Value) (l : List Ring) (nm : Int) (w : World) (h : IsRings w R mb fv m l) (hf : Fits nm) (hm : m nm = Option.none) :
    Calls Try.prog 40 #[.agg #[.pointer (some ⟨R, 0, Option.none⟩)], .int .i64 nm] w (Gives w (.bool false)) := by
  have hb : Below w.heap.size w (w.alloc (.cells #[.pointer (some ⟨R, 0, Option.none⟩)] 95)) := (Below.refl _ w).alloc (Nat.le_refl _) _
  have h1 := h.below hb
  have c1 := h1.box.cell 1
  simp at c1
  have lk := h1.map.look Try.underlying90 (zero3 _) hf
  rw [hm] at lk
  simp only [Option.isSome_none, Option.getD_none] at lk
  have HB := Lib.hid hb
  obtain ⟨w1, hw1⟩ : ∃ w1, w1 = w.alloc (.cells #[.pointer (some ⟨R, 0, Option.none⟩)] 95) := ⟨_, rfl⟩
  have x1 := (Blk.new w 95 #[.pointer (some ⟨R, 0, Option.none⟩)]).cell 0
  simp at x1
  have hRl := h.box.lt
  clear h h1 hb hm
  go_enter Try.func40, Try.ntmps40
  go_wp2
  go_ret
  exact ⟨rfl, HB.out⟩
set_option maxRecDepth 100000 in
set_option maxHeartbeats 1000000 in
theorem drop_yes (R mb : Nat) (fv : Value) (m : Int → Option Value) (l : List Ring) (i nm : Nat) (w : World) (h : IsRings w R mb fv m l) (hp : Heap (g l) l.length) (hi : i < l.length) (hnm : (g l i).name = nm) :
    Calls Try.prog 40 #[.agg #[.pointer (some ⟨R, 0, Option.none⟩)], .int .i64 nm] w (fun e w' => e = .returned (.bool true) ∧ Removed w R mb fv l nm w') := by
  have hf := h.fit i hi
  have hm := h.plc.at_ i hi
  rw [hnm] at hf hm
  have hb : Below w.heap.size w (w.alloc (.cells #[.pointer (some ⟨R, 0, Option.none⟩)] 95)) := (Below.refl _ w).alloc (Nat.le_refl _) _
  have h1 := h.below hb
  have c1 := h1.box.cell 1
  simp at c1
  have lk := h1.map.look Try.underlying90 (zero3 _) hf
  rw [hm] at lk
  simp only [Option.isSome_some, Option.getD_some] at lk
  have x1 := (Blk.new w 95 #[.pointer (some ⟨R, 0, Option.none⟩)]).cell 0
  simp at x1
  have tr : ∀ w', Removed (w.alloc (.cells #[.pointer (some ⟨R, 0, Option.none⟩)] 95)) R mb fv l nm w' → Removed w R mb fv l nm w' := fun w' ⟨fv', m', l', a1, a2, a3, a4, a5, a6⟩ =>
    ⟨fv', m', l', a1, (Kp.of_below hb).trans a2 (fun _ h => .inl h), fun k hk => (a3 k hk).imp id (fun h => Nat.le_trans hb.size h), a4, a5, a6⟩
  have K := Lib.hid ((remove_calls R mb fv m l i nm _ h1 hi hp hnm).mono fun e w' h => And.imp id (tr w') h)
  have mk := mk89
  have hRl := h.box.lt
  clear h h1 hb hm hp tr
  go_enter Try.func40, Try.ntmps40
  go_wp2_with fail
  refine K.out.mono ?_
  rintro e w2 ⟨⟨r, rfl⟩, hR⟩
  have HR := Lib.hid hR
  clear hR
  go_wp2
  go_ret
  exact ⟨rfl, HR.out⟩
end Go.Proofs.Ytiphkgkhfomcaaa.Alarm
