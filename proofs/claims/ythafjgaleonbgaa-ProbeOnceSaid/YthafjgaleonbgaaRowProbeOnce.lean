/- Whatever is told (the law's own 100 calls): a loss is told only of a segment that was sent once more, by an acknowledgement of something beyond it, and once. No conditions of ours. -/
import Derived.Test.YthafjgaleonbgaaRows
import Derived.Test.YthafjgaleonbgaaProbeOnce
import Derived.WalkKit
import Derived.ProofKit
import Derived.OpenShut
import Derived.ShutString
import Derived.ChangeOld
import Derived.Below
import Derived.SizedLaws
import Derived.Deep.Slices
import Derived.Deep.Fields
import Derived.ChangeSame
import Derived.Lib.SmallJoins
namespace Go.Proofs.Ythafjgaleonbgaa.probeOnce
open Go.ChangeShapes Go.WideShapes Go.ChangeAt Go.RowKit Go.OpenShut Go.Deep Go.Joins Go.Proofs.Ythafjgaleonbgaa.Aid 
open Go.ChangeMaps (open_string shut_string)
theorem own : ownKnob Try.prog.godebug = none := by kernel_rfl
theorem laidOut : laidOutB Try.prog = true := by kernel_rfl
set_option maxRecDepth 100000 in
theorem lifted (os : Os) (started : os.Started) (H : Type) (enc : TypeId × Value → H) :
    ReturnsInHanded {} Try.checked os 11 .any (Rows.probeOnceSpec.pre6 enc Try.prog Try.f11 Rows.probeOnceRow.domain false) (Rows.probeOnceSpec.post enc Try.prog Try.f11 false true false false) := by
  refine returnsInHanded_of_change_sized (C := Try.checked) own started (by kernel_rfl) Try.func11
    (ChangeSpec.witness6 (enc := enc) (C := Try.checked) false ⟨#[], #[.int .i64 0, .bool false, .slice none 0 0], []⟩ 8 (by kernel_rfl) (by kernel_rfl) (by kernel_rfl) (by kernel_rfl)) ?_
  intro W base args ds gs before hval0 hW hcnd hsz0 _
  have hsz : (DataW.weightsEach Try.prog (Try.f11.params.toList ++ Rows.probeOnceSpec.plain.varTypes Try.prog) (ds ++ gs)).all (· ≤ reachBytes) = true := hsz0
  have hval : ∀ (j : Nat) t v, Try.f11.params[j]? = some t → args[j]? = some v → Value.okWide Try.prog W .any base t v := hval0
  have hW' := hW
  obtain ⟨p, q, hA0, hV, rfl, hfz, hnd⟩ := hW
  have hA : DataW.TrodAll enc Try.prog W 0 (fun _ => true) true Try.f11.params.toList args.toList ds p := hA0
  rw [Try.params11] at hA hval hsz
  obtain ⟨v0, vs0, d0, ds0, p0, q0, hargs, rfl, rfl, h0, r0⟩ := trodAll_cons hA
  obtain ⟨v1, vs1, d1, ds1, p1, q1, rfl, rfl, rfl, h1, r1⟩ := trodAll_cons r0
  obtain ⟨v2, vs2, d2, ds2, p2, q2, rfl, rfl, rfl, h2, r2⟩ := trodAll_cons r1
  obtain ⟨rfl, rfl, rfl⟩ := trodAll_nil r2
  obtain rfl : args = #[v0, v1, v2] := by cases args; simp_all
  obtain ⟨rfl, rfl⟩ := trodVars_none hV
  obtain ⟨a0, rfl, rfl, rfl, w0⟩ := open_int Try.underlying3 (hval 0 3 v0 rfl rfl) h0
  have b0 := bounds_i64 w0
  obtain ⟨a1, rfl, rfl, rfl⟩ := open_bool Try.underlying4 (hval 1 4 v1 rfl rfl) h1
  obtain ⟨a2, len2, cap2, rfl⟩ := okWide_slice Try.underlying64 (hval 2 64 v2 rfl rfl)
  have k2 := h2
  have lt2 : ∀ x ∈ p2, x.block < W.heap.size := by obtain ⟨m, hm⟩ := k2; exact DataW.trod_lt m _ _ _ hm
  obtain ⟨fuel2, hf2⟩ := h2
  obtain ⟨xs2, e2, g2, cp2, s2, R2⟩ : ∃ xs : List Probe.Op, xs.length = len2 ∧ (∀ x ∈ xs, Probe.Wf x) ∧ len2 ≤ cap2 ∧ len2 ≤ maxLen ∧ Aid.Reps W a2 7 Probe.encOp xs := by
    rcases open_slice Try.underlying64 hf2 with ⟨hcs, _⟩ | ⟨x, l, c, m, n, D, Pl, hcs, _, hl, hm, hmm, hx, hi⟩
    · simp [Value.cells] at hcs
      obtain ⟨rfl, rfl, rfl⟩ := hcs
      exact ⟨[], rfl, by simp, by simp, by simp, by intro i x h; simp at h⟩
    · simp [Value.cells] at hcs
      obtain ⟨rfl, rfl, rfl⟩ := hcs
      have hall : ∀ i, i < len2 → ∃ x1 : Probe.Op, Probe.Wf x1 ∧ ∀ (j : Nat) (v : Value), (Probe.encOp x1)[j]? = some v → W.cell? (x.add (i * 7 + j)) = some v := by
        intro i hil
        obtain ⟨cs', hc, ht'⟩ := hi i (by rw [hmm]; split <;> omega)
        rw [show Try.prog.cellsOf 72 = 7 from by kernel_rfl] at hc
        obtain ⟨_, hcl, hat⟩ := World.cells?_some hc
        obtain ⟨ys, n', hn', hy, hlen, hyl, hf⟩ := DataW.trod_struct Try.underlying72 ht'
        obtain ⟨c0, c1, c2, c3, c4, c5, c6, rfl⟩ : ∃ c0 c1 c2 c3 c4 c5 c6, cs' = [c0, c1, c2, c3, c4, c5, c6] := by
          match cs', hcl with
          | [c0, c1, c2, c3, c4, c5, c6], _ => exact ⟨c0, c1, c2, c3, c4, c5, c6, rfl⟩
        have some_of : ∀ j, j < 6 → ∃ y, ys[j]? = some y := fun j hj => ⟨_, List.getElem?_eq_getElem (by rw [hyl]; exact hj)⟩
        obtain ⟨y0, e0⟩ := some_of 0 (by omega)
        have h0 : DataW.trod enc Try.prog W 0 (fun _ => true) true n' 5 ((List.drop 0 _).take (Try.prog.cellsOf 5)) = some y0 := (hf 0 _ rfl).trans e0
        rw [show Try.prog.cellsOf 5 = 1 from by kernel_rfl] at h0
        simp only [List.drop_zero, List.take_succ_cons, List.take_zero] at h0
        obtain ⟨z0, q0, _, g0⟩ := DataW.trod_int Try.underlying5 h0
        simp at q0
        subst q0
        obtain ⟨y1, e1⟩ := some_of 1 (by omega)
        have h1 : DataW.trod enc Try.prog W 0 (fun _ => true) true n' 3 ((List.drop 1 _).take (Try.prog.cellsOf 3)) = some y1 := (hf 1 _ rfl).trans e1
        rw [show Try.prog.cellsOf 3 = 1 from by kernel_rfl] at h1
        simp only [List.drop_succ_cons, List.drop_zero, List.take_succ_cons, List.take_zero] at h1
        obtain ⟨z1, q1, _, g1⟩ := DataW.trod_int Try.underlying3 h1
        simp at q1
        subst q1
        obtain ⟨y2, e2⟩ := some_of 2 (by omega)
        have h2 : DataW.trod enc Try.prog W 0 (fun _ => true) true n' 4 ((List.drop 2 _).take (Try.prog.cellsOf 4)) = some y2 := (hf 2 _ rfl).trans e2
        rw [show Try.prog.cellsOf 4 = 1 from by kernel_rfl] at h2
        simp only [List.drop_succ_cons, List.drop_zero, List.take_succ_cons, List.take_zero] at h2
        obtain ⟨z2, q2, _⟩ := DataW.trod_bool Try.underlying4 h2
        simp at q2
        subst q2
        obtain ⟨y3, e3⟩ := some_of 3 (by omega)
        have h3 : DataW.trod enc Try.prog W 0 (fun _ => true) true n' 70 ((List.drop 3 _).take (Try.prog.cellsOf 70)) = some y3 := (hf 3 _ rfl).trans e3
        rw [show Try.prog.cellsOf 70 = 2 from by kernel_rfl] at h3
        simp only [List.drop_succ_cons, List.drop_zero, List.take_succ_cons, List.take_zero] at h3
        obtain ⟨ys3, n3, hn3, hy3, hlen3, hyl3, hf3⟩ := DataW.trod_struct Try.underlying70 h3
        have some_3 : ∀ j, j < 2 → ∃ y, ys3[j]? = some y := fun j hj => ⟨_, List.getElem?_eq_getElem (by rw [hyl3]; exact hj)⟩
        obtain ⟨y30, e30⟩ := some_3 0 (by omega)
        obtain ⟨y31, e31⟩ := some_3 1 (by omega)
        have h30 : DataW.trod enc Try.prog W 0 (fun _ => true) true n3 3 ((List.drop 0 _).take (Try.prog.cellsOf 3)) = some y30 := (hf3 0 _ rfl).trans e30
        have h31 : DataW.trod enc Try.prog W 0 (fun _ => true) true n3 3 ((List.drop 1 _).take (Try.prog.cellsOf 3)) = some y31 := (hf3 1 _ rfl).trans e31
        rw [show Try.prog.cellsOf 3 = 1 from by kernel_rfl] at h30 h31
        simp only [List.drop_zero, List.take_succ_cons, List.take_zero] at h30
        simp only [List.drop_succ_cons, List.drop_zero, List.take_succ_cons, List.take_zero] at h31
        obtain ⟨z3, q3, _, g3⟩ := DataW.trod_int Try.underlying3 h30
        simp at q3
        subst q3
        obtain ⟨z4, q4, _, g4⟩ := DataW.trod_int Try.underlying3 h31
        simp at q4
        subst q4
        obtain ⟨y4, e4⟩ := some_of 4 (by omega)
        have h4 : DataW.trod enc Try.prog W 0 (fun _ => true) true n' 4 ((List.drop 5 _).take (Try.prog.cellsOf 4)) = some y4 := (hf 4 _ rfl).trans e4
        rw [show Try.prog.cellsOf 4 = 1 from by kernel_rfl] at h4
        simp only [List.drop_succ_cons, List.drop_zero, List.take_succ_cons, List.take_zero] at h4
        obtain ⟨z5, q5, _⟩ := DataW.trod_bool Try.underlying4 h4
        simp at q5
        subst q5
        obtain ⟨y5, e5⟩ := some_of 5 (by omega)
        have h5 : DataW.trod enc Try.prog W 0 (fun _ => true) true n' 4 ((List.drop 6 _).take (Try.prog.cellsOf 4)) = some y5 := (hf 5 _ rfl).trans e5
        rw [show Try.prog.cellsOf 4 = 1 from by kernel_rfl] at h5
        simp only [List.drop_succ_cons, List.drop_zero, List.take_succ_cons, List.take_zero] at h5
        obtain ⟨z6, q6, _⟩ := DataW.trod_bool Try.underlying4 h5
        simp at q6
        subst q6
        have b1 := bounds_i64 g1
        have b3 := bounds_i64 g3
        have b4 := bounds_i64 g4
        refine ⟨⟨z0, z1, z2, z3, z4, z5, z6⟩, ⟨b1, b3, b4⟩, fun j v hv => ?_⟩
        have hj : j < 7 := by have := (List.getElem?_eq_some_iff.1 hv).1; simpa [Probe.encOp] using this
        rw [← Go.Deep.add_add, hat j hj]
        simpa [Probe.encOp] using hv
      by_cases h0 : len2 = 0
      · exact ⟨[], by simp [h0], by simp, hl, by omega, by intro i x h; simp at h⟩
      · obtain ⟨x1, _, hx1⟩ := hall 0 (by omega)
        have hlb : x.block < W.heap.size := by
          have hc := hx1 0 _ rfl
          have := World.block_lt_of_cell? W _ hc
          simpa [Addr.add] using this
        obtain ⟨xs, q1, q2, q3⟩ := Aid.reps_of (P := Probe.Wf) len2 hlb hall
        exact ⟨xs, q1, q2, hl, by omega, q3⟩
  subst e2
  refine (Probe.once_walk a0 a1 a2 cap2 xs2 W s2 g2 R2).mono fun e W' ⟨he, bel⟩ => ?_
  subst he
  exact ⟨_, rfl, _, _, _, [], _, [], hW', trodAll_mk1 (shut_bool Try.underlying4 _), (trodAll_cons_mk (shut_int Try.underlying3 w0) (trodAll_cons_mk (shut_bool Try.underlying4 _) (trodAll_cons_mk (Below.trod laidOut (by kernel_rfl) (of_decide_eq_true (by kernel_rfl)) k2 bel lt2) trodAll_mk0))), rfl, bel.frame _, fun h => by cases h⟩
theorem over : Rows.probeOnceRow.holds Try.pinned (OpenSpec.ofChange Rows.probeOnceSpec) :=
  OpenClaim.holds_of_wide 11 Try.f11 rfl rfl rfl rfl rfl rfl rfl ⟨rfl, rfl, rfl, rfl, rfl⟩ rfl rfl rfl rfl rfl (by kernel_rfl) Try.func11 (by kernel_rfl)
    (of_decide_eq_true (by kernel_rfl)) (by unfold Func.isWrapper; first | (rw [if_pos (by decide +kernel)]; kernel_rfl) | (rw [if_neg (by decide +kernel)]; exact ⟨rfl, rfl⟩))
    (fun os started H enc _ => lifted os started H enc)
theorem proved : Rows.ProbeOnceSaid := over
end Go.Proofs.Ythafjgaleonbgaa.probeOnce
namespace Go.Proofs.Ythafjgaleonbgaa
theorem probeOnce_holds : Rows.ProbeOnceSaid := probeOnce.proved
end Go.Proofs.Ythafjgaleonbgaa
