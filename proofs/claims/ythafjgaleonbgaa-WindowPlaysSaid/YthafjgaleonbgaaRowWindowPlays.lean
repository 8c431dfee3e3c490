/- Whatever comes, is cut and is given back (the law's own 300 rounds): step by step a window is as the document says, and stays within its limits; a clone goes its own way. No conditions of ours. -/
import Derived.Test.YthafjgaleonbgaaRows
import Derived.Test.YthafjgaleonbgaaWinPlays
import Derived.WalkKit
import Derived.ProofKit
import Derived.OpenShut
import Derived.ShutString
import Derived.ChangeOld
import Derived.Below
import Derived.SizedLaws
import Derived.Deep.Slices
import Derived.Deep.Fields
import Derived.ChangeSame
import Derived.Lib.SmallJoins
namespace Go.Proofs.Ythafjgaleonbgaa.windowPlays
open Go.ChangeShapes Go.WideShapes Go.ChangeAt Go.RowKit Go.OpenShut Go.Deep Go.Joins Go.Proofs.Ythafjgaleonbgaa.Aid 
open Go.ChangeMaps (open_string shut_string)
theorem own : ownKnob Try.prog.godebug = none := by kernel_rfl
theorem laidOut : laidOutB Try.prog = true := by kernel_rfl
set_option maxRecDepth 100000 in
theorem lifted (os : Os) (started : os.Started) (H : Type) (enc : TypeId × Value → H) :
    ReturnsInHanded {} Try.checked os 5 .any (Rows.windowPlaysSpec.pre6 enc Try.prog Try.f5 Rows.windowPlaysRow.domain false) (Rows.windowPlaysSpec.post enc Try.prog Try.f5 false true false false) := by
  refine returnsInHanded_of_change_sized (C := Try.checked) own started (by kernel_rfl) Try.func5
    (ChangeSpec.witness6 (enc := enc) (C := Try.checked) false ⟨#[], #[.int .i64 0, .int .i64 0, .int .i64 0, .slice none 0 0], []⟩ 8 (by kernel_rfl) (by kernel_rfl) (by kernel_rfl) (by kernel_rfl)) ?_
  intro W base args ds gs before hval0 hW hcnd hsz0 _
  have hsz : (DataW.weightsEach Try.prog (Try.f5.params.toList ++ Rows.windowPlaysSpec.plain.varTypes Try.prog) (ds ++ gs)).all (· ≤ reachBytes) = true := hsz0
  have hval : ∀ (j : Nat) t v, Try.f5.params[j]? = some t → args[j]? = some v → Value.okWide Try.prog W .any base t v := hval0
  have hW' := hW
  obtain ⟨p, q, hA0, hV, rfl, hfz, hnd⟩ := hW
  have hA : DataW.TrodAll enc Try.prog W 0 (fun _ => true) true Try.f5.params.toList args.toList ds p := hA0
  rw [Try.params5] at hA hval hsz
  obtain ⟨v0, vs0, d0, ds0, p0, q0, hargs, rfl, rfl, h0, r0⟩ := trodAll_cons hA
  obtain ⟨v1, vs1, d1, ds1, p1, q1, rfl, rfl, rfl, h1, r1⟩ := trodAll_cons r0
  obtain ⟨v2, vs2, d2, ds2, p2, q2, rfl, rfl, rfl, h2, r2⟩ := trodAll_cons r1
  obtain ⟨v3, vs3, d3, ds3, p3, q3, rfl, rfl, rfl, h3, r3⟩ := trodAll_cons r2
  obtain ⟨rfl, rfl, rfl⟩ := trodAll_nil r3
  obtain rfl : args = #[v0, v1, v2, v3] := by cases args; simp_all
  obtain ⟨rfl, rfl⟩ := trodVars_none hV
  obtain ⟨a0, rfl, rfl, rfl, w0⟩ := open_int Try.underlying3 (hval 0 3 v0 rfl rfl) h0
  have b0 := bounds_i64 w0
  obtain ⟨a1, rfl, rfl, rfl, w1⟩ := open_int Try.underlying3 (hval 1 3 v1 rfl rfl) h1
  have b1 := bounds_i64 w1
  obtain ⟨a2, rfl, rfl, rfl, w2⟩ := open_int Try.underlying3 (hval 2 3 v2 rfl rfl) h2
  have b2 := bounds_i64 w2
  obtain ⟨a3, len3, cap3, rfl⟩ := okWide_slice Try.underlying33 (hval 3 33 v3 rfl rfl)
  have k3 := h3
  have lt3 : ∀ x ∈ p3, x.block < W.heap.size := by obtain ⟨m, hm⟩ := k3; exact DataW.trod_lt m _ _ _ hm
  obtain ⟨fuel3, hf3⟩ := h3
  obtain ⟨xs3, e3, g3, cp3, s3, R3⟩ : ∃ xs : List Window.Op, xs.length = len3 ∧ (∀ x ∈ xs, Window.WfOp x) ∧ len3 ≤ cap3 ∧ len3 ≤ maxLen ∧ Aid.Reps W a3 3 Window.encOp xs := by
    rcases open_slice_fields Try.underlying33 Try.underlying39 (by kernel_rfl) (by kernel_rfl) hf3 with ⟨hcs, _⟩ | ⟨x, l, c, m, D, Pl, hcs, _, hl, hm, hmm, hx, hi⟩
    · simp [Value.cells] at hcs
      obtain ⟨rfl, rfl, rfl⟩ := hcs
      exact ⟨[], rfl, by simp, by simp, by simp, by intro i x h; simp at h⟩
    · simp [Value.cells] at hcs
      obtain ⟨rfl, rfl, rfl⟩ := hcs
      have hall : ∀ i, i < len3 → ∃ x1 : Window.Op, Window.WfOp x1 ∧ ∀ (j : Nat) (v : Value), (Window.encOp x1)[j]? = some v → W.cell? (x.add (i * 3 + j)) = some v := by
        intro i hil
        obtain ⟨ys, n, _, _, _, hf⟩ := hi i (by rw [hmm]; split <;> omega)
        obtain ⟨u0, y0, hc0, _, ht0⟩ := hf 0 _ rfl
        obtain ⟨z0, q0, _, g0⟩ := DataW.trod_int Try.underlying5 ht0
        simp at q0
        subst q0
        have b0 := bounds_u8 g0
        obtain ⟨u1, y1, hc1, _, ht1⟩ := hf 1 _ rfl
        obtain ⟨z1, q1, _, g1⟩ := DataW.trod_int Try.underlying3 ht1
        simp at q1
        subst q1
        have b1 := bounds_i64 g1
        obtain ⟨u2, y2, hc2, _, ht2⟩ := hf 2 _ rfl
        obtain ⟨z2, q2, _, g2⟩ := DataW.trod_int Try.underlying3 ht2
        simp at q2
        subst q2
        have b2 := bounds_i64 g2
        refine ⟨⟨z0, z1, z2⟩, b0, fun j v hv => ?_⟩
        match j, hv with
        | 0, hv => simp [Window.encOp] at hv; subst hv; exact hc0
        | 1, hv => simp [Window.encOp] at hv; subst hv; exact hc1
        | 2, hv => simp [Window.encOp] at hv; subst hv; exact hc2
        | j + 3, hv => simp [Window.encOp] at hv
      by_cases h0 : len3 = 0
      · exact ⟨[], by simp [h0], by simp, hl, by omega, by intro i x h; simp at h⟩
      · obtain ⟨x1, _, hx1⟩ := hall 0 (by omega)
        have hlb : x.block < W.heap.size := by
          have hc := hx1 0 _ rfl
          have := World.block_lt_of_cell? W _ hc
          simpa [Addr.add] using this
        obtain ⟨xs, q1, q2, q3⟩ := Aid.reps_of (P := Window.WfOp) len3 hlb hall
        exact ⟨xs, q1, q2, hl, by omega, q3⟩
  subst e3
  refine (Window.plays_walk a0 a1 a2 a3 cap3 xs3 W s3 g3 R3).mono fun e W' ⟨he, bel⟩ => ?_
  subst he
  exact ⟨_, rfl, _, _, _, [], _, [], hW', trodAll_mk1 (shut_bool Try.underlying4 _), (trodAll_cons_mk (shut_int Try.underlying3 w0) (trodAll_cons_mk (shut_int Try.underlying3 w1) (trodAll_cons_mk (shut_int Try.underlying3 w2) (trodAll_cons_mk (Below.trod laidOut (by kernel_rfl) (of_decide_eq_true (by kernel_rfl)) k3 bel lt3) trodAll_mk0)))), rfl, bel.frame _, fun h => by cases h⟩
theorem over : Rows.windowPlaysRow.holds Try.pinned (OpenSpec.ofChange Rows.windowPlaysSpec) :=
  OpenClaim.holds_of_wide 5 Try.f5 rfl rfl rfl rfl rfl rfl rfl ⟨rfl, rfl, rfl, rfl, rfl⟩ rfl rfl rfl rfl rfl (by kernel_rfl) Try.func5 (by kernel_rfl)
    (of_decide_eq_true (by kernel_rfl)) (by unfold Func.isWrapper; first | (rw [if_pos (by decide +kernel)]; kernel_rfl) | (rw [if_neg (by decide +kernel)]; exact ⟨rfl, rfl⟩))
    (fun os started H enc _ => lifted os started H enc)
theorem proved : Rows.WindowPlaysSaid := over
end Go.Proofs.Ythafjgaleonbgaa.windowPlays
namespace Go.Proofs.Ythafjgaleonbgaa
theorem windowPlays_holds : Rows.WindowPlaysSaid := windowPlays.proved
end Go.Proofs.Ythafjgaleonbgaa
