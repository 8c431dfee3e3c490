/- Chapter 13 (alarm): does: Stop. -/
import Derived.Test.YtiphkgkhfomcaaaDoesB
set_option linter.unusedSimpArgs false
set_option linter.unusedVariables false
attribute [local go_sem ↓] Go.wp_at_zero Go.wp_at_succ
namespace Go.Proofs.Ytiphkgkhfomcaaa.Alarm
open Go.BigFrame Go.RowKit Go.OpenShut Go.Proofs.Ytiphkgkhfomcaaa.Aid Go.Proofs.Ytiphkgkhfomcaaa.DMap Go.Proofs.Ytiphkgkhfomcaaa.Heap
set_option maxRecDepth 100000 in
set_option maxHeartbeats 4000000 in
theorem does_stop (B : Nat → Prop) (C : Nat) (c : Ck) (v : Value) (kd nm n : Int) (w : World) (h : Clk w B C c) (Ar : List Int) (hr : RowOf 3 1 encI w v Ar) (hlr : Ar.length ≤ 64) (hv : ∀ k, v.ownBlock = some k → ¬ B k) (hk : kd % 3 = 1) (hk0 : 0 ≤ kd) (hf : Fits nm) :
    Calls Try.prog 19 #[.pointer (some ⟨C, 0, Option.none⟩), refV c.now v, .agg #[.int .u8 kd, .int .i64 nm, .int .i64 n]] w (Done w B C v (Alike c Ar)) := by
  have HC := Lib.hid (And.intro h hv)
  have hBl := Lib.hid (fun k (hk : B k) => h.lt k hk)
  obtain ⟨Av, nv, cv, rfl⟩ := hr.some_slice
  have D0 := Lib.hid (door_new w c.now (.slice Av nv cv) kd nm n)
  have HV := Lib.hid (fun k (hk : (Value.slice Av nv cv).ownBlock = some k) => show k ≠ w.heap.size + 1 + 1 from fun e => by have := hr.lt k hk; omega)
  have HS0 := Lib.hid (show ((((w.alloc (.cells #[.int .i64 c.now, .slice Av nv cv] 44)).alloc (.cells #[.int .u8 kd, .int .i64 nm, .int .i64 n] 30)).alloc (.cells #[.int .i64 0, nilS] 44)).heap.size = w.heap.size + 1 + 1 + 1) by simp)
  have hkk : kd.tmod 3 = 1 := by rw [Int.tmod_eq_emod_of_nonneg hk0]; exact hk
  clear hv hk
  go_enter Try.func19, Try.ntmps19
  have RS := Lib.hid (stop_ref (now := c.now) hr hlr nm)
  have KS := Lib.hid (stop_clk h nm hf)
  have AL := Lib.hid (fun (e : Ar = c.A) => show stopR Ar nm = stopR c.A nm from by rw [e])
  generalize stopR c.A nm = r1 at *
  generalize stopR Ar nm = r2 at *
  obtain ⟨er, A'⟩ := r1
  obtain ⟨er2, A3⟩ := r2
  simp only at RS KS
  clear h hr
  go_wp2_with fail
  refine (RS.out _ D0.out.2).mono ?_
  rintro e W1 ⟨v', rfl, r1, b1, o1⟩
  obtain ⟨A2, n2, c2, rfl⟩ := r1.some_slice
  have bW1 := below_then D0.out.2 D0.out.2.size b1
  have d1 := D0.out.1.below b1
  have hs0 := HS0.out
  have hs1 := b1.size
  have R1 := Lib.hid (And.intro r1 (And.intro bW1 (And.intro (show w.heap.size + 1 + 1 < W1.heap.size by omega) (fun k hk => (o1 k hk).imp id (fun e => show w.heap.size + 1 + 1 < k by omega)))))
  clear r1 bW1 o1 hs1 b1
  go_upto_region 10 with fail
  have b2 : Below W1.heap.size W1 (W1.alloc (.cells #[.int .i64 c.now, .slice A2 n2 c2] 44)) := (Below.refl _ W1).alloc (Nat.le_refl _) _
  have hX := Blk.new W1 44 #[.int .i64 c.now, .slice A2 n2 c2]
  have d2 := d1.below b2
  have hsz2 : (W1.alloc (.cells #[.int .i64 c.now, .slice A2 n2 c2] 44)).heap.size = W1.heap.size + 1 := World.size_alloc _ _
  revert b2 hX d2 hsz2
  generalize W1.alloc (.cells #[.int .i64 c.now, .slice A2 n2 c2] 44) = W2
  intro b2 hX d2 hsz2
  generalize hXX : W1.heap.size = X at *
  have x0 := hX.cell 0
  have x1 := hX.cell 1
  have p1 := d2.b5.cell 1
  have p2 := d2.b5.cell 2
  simp at x0 x1 p1 p2
  have AFT := Lib.hid (fun (W' : World) (k3 : Kp B W2 W') => after_does (X := X) d2 hX k3 hBl.out (show w.heap.size ≤ X by have := R1.out.2.2.1; omega))
  have KW : Hid (∀ W, Below W2.heap.size W2 W → Calls Try.prog 14 #[.pointer (some ⟨C, 0, Option.none⟩), .int .i64 nm] W (Turns W B C ⟨c.now, A'⟩ (.bool er))) := Lib.hid (fun W hW => KS.out W (below_then (below_then R1.out.2.1 R1.out.2.1.size (by rw [hXX]; exact b2)) (by have := b2.size; have := R1.out.2.1.size; omega) hW))
  have HB2 := Lib.hid b2
  have ne1 : ¬ (w.heap.size + 1 + 1 = X) := by have := R1.out.2.2.1; omega
  have ne2 : ¬ (X = w.heap.size + 1 + 1) := by omega
  have HXX := Lib.hid hXX
  clear d1 d2 hX RS KS b2 hXX hsz2
  go_region_held3 (fun W => W.cell? ⟨X, 0, Option.none⟩ = some (.int .i64 c.now) ∧ W.cell? ⟨X, 1, Option.none⟩ = some (.slice A2 n2 c2) ∧ W.cell? ⟨w.heap.size + 1, 1, Option.none⟩ = some (.int .i64 nm)) (go_keep) ((go_at_call 14; refine (KW.out _ (by first | exact below_drew (Below.refl _ _) | exact below_drew (below_drew (Below.refl _ _)))).mono ?_; rintro e W3 ⟨rfl, B', k1, k2, k3⟩; obtain ⟨a0, a1, a2, a3, a4, a5, a6⟩ := AFT.out W3 (kp_drew k3); have HT := Lib.hid (And.intro k1 (And.intro k2 (And.intro (kp_drew k3) a6))); clear k1 k2 k3 a6))
  all_goals
    go_wp2
    obtain ⟨k1, k2, k3, a6⟩ := HT.out
    have E := done_end (v' := .slice A2 n2 c2) (A' := A') (A2 := A3) (bv := er == er2) (P := Alike c Ar) (r := .bool er) (W1 := W1) HC.out.1 rfl (by rw [HXX.out]; exact R1.out.2.2.1) HC.out.2 R1.out.2.1 R1.out.1 (fun k hk => (R1.out.2.2.2 k hk).imp id (fun e => by omega)) (by rw [HXX.out]; exact HB2.out) (turns_of (w := W2) k1 k2 k3) a6 (r1_far R1.out.2.2.2 HV.out) ⟨rfl, fun e => by have := AL.out e; injection this with e1 e2; subst e1 e2; exact ⟨rfl, by simp⟩⟩
    have o1 := ((a6.set_ 0 (.int .i64 c.now)).set_ 1 (.slice A2 n2 c2)).eq (cs' := #[.int .i64 c.now, .slice A2 n2 c2]) (by simp)
    have t0 := o1.cell 0
    have t1 := o1.cell 1
    simp at t0 t1
    exact bodyPost_ret (v := .tuple #[refV c.now (.slice A2 n2 c2), .bool (er == er2)]) (by simp [results, Try.results19, go_sem, t0, t1]; done) rfl E
end Go.Proofs.Ytiphkgkhfomcaaa.Alarm
