/- Whatever is set and stopped, and however time goes by, step by step a clock tells what the document says; a clone goes its own way. No conditions. -/
import Derived.Test.YtiphkgkhfomcaaaRows
import Derived.Test.YtiphkgkhfomcaaaAlarmPlays
import Derived.WalkKit
import Derived.ProofKit
import Derived.OpenShut
import Derived.ShutString
import Derived.ChangeOld
import Derived.Below
import Derived.SizedLaws
import Derived.Deep.Slices
import Derived.Deep.Fields
import Derived.ChangeSame
import Derived.Lib.SmallJoins
namespace Go.Proofs.Ytiphkgkhfomcaaa.alarmPlays
open Go.ChangeShapes Go.WideShapes Go.ChangeAt Go.RowKit Go.OpenShut Go.Deep Go.Joins Go.Proofs.Ytiphkgkhfomcaaa.Aid 
open Go.ChangeMaps (open_string shut_string)
theorem own : ownKnob Try.prog.godebug = none := by kernel_rfl
theorem laidOut : laidOutB Try.prog = true := by kernel_rfl
set_option maxRecDepth 100000 in
theorem lifted (os : Os) (started : os.Started) (H : Type) (enc : TypeId × Value → H) :
    ReturnsInHanded {} Try.checked os 5 .any (Rows.alarmPlaysSpec.pre6 enc Try.prog Try.f5 Rows.alarmPlaysRow.domain false) (Rows.alarmPlaysSpec.post enc Try.prog Try.f5 false true false false) := by
  refine returnsInHanded_of_change_sized (C := Try.checked) own started (by kernel_rfl) Try.func5
    (ChangeSpec.witness6 (enc := enc) (C := Try.checked) false ⟨#[], #[.int .i64 0, .slice none 0 0], []⟩ 8 (by kernel_rfl) (by kernel_rfl) (by kernel_rfl) (by kernel_rfl)) ?_
  intro W base args ds gs before hval0 hW hcnd hsz0 _
  have hsz : (DataW.weightsEach Try.prog (Try.f5.params.toList ++ Rows.alarmPlaysSpec.plain.varTypes Try.prog) (ds ++ gs)).all (· ≤ reachBytes) = true := hsz0
  have hval : ∀ (j : Nat) t v, Try.f5.params[j]? = some t → args[j]? = some v → Value.okWide Try.prog W .any base t v := hval0
  have hW' := hW
  obtain ⟨p, q, hA0, hV, rfl, hfz, hnd⟩ := hW
  have hA : DataW.TrodAll enc Try.prog W 0 (fun _ => true) true Try.f5.params.toList args.toList ds p := hA0
  rw [Try.params5] at hA hval hsz
  obtain ⟨v0, vs0, d0, ds0, p0, q0, hargs, rfl, rfl, h0, r0⟩ := trodAll_cons hA
  obtain ⟨v1, vs1, d1, ds1, p1, q1, rfl, rfl, rfl, h1, r1⟩ := trodAll_cons r0
  obtain ⟨rfl, rfl, rfl⟩ := trodAll_nil r1
  obtain rfl : args = #[v0, v1] := by cases args; simp_all
  obtain ⟨rfl, rfl⟩ := trodVars_none hV
  obtain ⟨a0, rfl, rfl, rfl, w0⟩ := open_int Try.underlying3 (hval 0 3 v0 rfl rfl) h0
  have b0 := bounds_i64 w0
  obtain ⟨a1, len1, cap1, rfl⟩ := okWide_slice Try.underlying22 (hval 1 22 v1 rfl rfl)
  have k1 := h1
  have lt1 : ∀ x ∈ p1, x.block < W.heap.size := by obtain ⟨m, hm⟩ := k1; exact DataW.trod_lt m _ _ _ hm
  obtain ⟨fuel1, hf1⟩ := h1
  obtain ⟨xs1, e1, g1, cp1, s1, R1⟩ : ∃ xs : List Alarm.OpV, xs.length = len1 ∧ (∀ x ∈ xs, Alarm.OpOk x) ∧ len1 ≤ cap1 ∧ len1 ≤ maxLen ∧ Aid.Reps W a1 3 Alarm.encO xs := by
    rcases open_slice_fields Try.underlying22 Try.underlying30 (by kernel_rfl) (by kernel_rfl) hf1 with ⟨hcs, _⟩ | ⟨x, l, c, m, D, Pl, hcs, _, hl, hm, hmm, hx, hi⟩
    · simp [Value.cells] at hcs
      obtain ⟨rfl, rfl, rfl⟩ := hcs
      exact ⟨[], rfl, by simp, by simp, by simp, by intro i x h; simp at h⟩
    · simp [Value.cells] at hcs
      obtain ⟨rfl, rfl, rfl⟩ := hcs
      have hall : ∀ i, i < len1 → ∃ x1 : Alarm.OpV, Alarm.OpOk x1 ∧ ∀ (j : Nat) (v : Value), (Alarm.encO x1)[j]? = some v → W.cell? (x.add (i * 3 + j)) = some v := by
        intro i hil
        obtain ⟨ys, n, _, _, _, hf⟩ := hi i (by rw [hmm]; split <;> omega)
        obtain ⟨u0, y0, hc0, _, ht0⟩ := hf 0 _ rfl
        obtain ⟨z0, q0, _, g0⟩ := DataW.trod_int Try.underlying5 ht0
        simp at q0
        subst q0
        have b0 := bounds_u8 g0
        obtain ⟨u1, y1, hc1, _, ht1⟩ := hf 1 _ rfl
        obtain ⟨z1, q1, _, g1⟩ := DataW.trod_int Try.underlying3 ht1
        simp at q1
        subst q1
        have b1 := bounds_i64 g1
        obtain ⟨u2, y2, hc2, _, ht2⟩ := hf 2 _ rfl
        obtain ⟨z2, q2, _, g2⟩ := DataW.trod_int Try.underlying3 ht2
        simp at q2
        subst q2
        have b2 := bounds_i64 g2
        refine ⟨⟨z0, z1, z2⟩, ⟨b0.1, b0.2, b1, b2⟩, fun j v hv => ?_⟩
        match j, hv with
        | 0, hv => simp [Alarm.encO] at hv; subst hv; exact hc0
        | 1, hv => simp [Alarm.encO] at hv; subst hv; exact hc1
        | 2, hv => simp [Alarm.encO] at hv; subst hv; exact hc2
        | j + 3, hv => simp [Alarm.encO] at hv
      by_cases h0 : len1 = 0
      · exact ⟨[], by simp [h0], by simp, hl, by omega, by intro i x h; simp at h⟩
      · obtain ⟨x1, _, hx1⟩ := hall 0 (by omega)
        have hlb : x.block < W.heap.size := by
          have hc := hx1 0 _ rfl
          have := World.block_lt_of_cell? W _ hc
          simpa [Addr.add] using this
        obtain ⟨xs, q1, q2, q3⟩ := Aid.reps_of (P := Alarm.OpOk) len1 hlb hall
        exact ⟨xs, q1, q2, hl, by omega, q3⟩
  subst e1
  refine (Alarm.plays_all a0 a1 cap1 xs1 W R1 g1 (by have := s1; unfold maxLen at this; omega)).mono fun e W' ⟨he, bel⟩ => ?_
  subst he
  exact ⟨_, rfl, _, _, _, [], _, [], hW', trodAll_mk1 (shut_bool Try.underlying4 _), (trodAll_cons_mk (shut_int Try.underlying3 w0) (trodAll_cons_mk (Below.trod laidOut (by kernel_rfl) (of_decide_eq_true (by kernel_rfl)) k1 bel lt1) trodAll_mk0)), rfl, bel.frame _, fun h => by cases h⟩
theorem over : Rows.alarmPlaysRow.holds Try.pinned (OpenSpec.ofChange Rows.alarmPlaysSpec) :=
  OpenClaim.holds_of_wide 5 Try.f5 rfl rfl rfl rfl rfl rfl rfl ⟨rfl, rfl, rfl, rfl, rfl⟩ rfl rfl rfl rfl rfl (by kernel_rfl) Try.func5 (by kernel_rfl)
    (of_decide_eq_true (by kernel_rfl)) (by unfold Func.isWrapper; first | (rw [if_pos (by decide +kernel)]; kernel_rfl) | (rw [if_neg (by decide +kernel)]; exact ⟨rfl, rfl⟩))
    (fun os started H enc _ => lifted os started H enc)
theorem proved : Rows.AlarmPlaysSaid := over
end Go.Proofs.Ytiphkgkhfomcaaa.alarmPlays
namespace Go.Proofs.Ytiphkgkhfomcaaa
theorem alarmPlays_holds : Rows.AlarmPlaysSaid := alarmPlays.proved
end Go.Proofs.Ytiphkgkhfomcaaa
