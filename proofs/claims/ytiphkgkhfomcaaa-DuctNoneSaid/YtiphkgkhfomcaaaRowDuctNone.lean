/- A duct that is none has nothing under way, whatever the bytes and the number. No conditions. -/
import Derived.Test.YtiphkgkhfomcaaaRows
import Derived.Test.YtiphkgkhfomcaaaDuctNone
import Derived.WalkKit
import Derived.ProofKit
import Derived.OpenShut
import Derived.ShutString
import Derived.ChangeOld
import Derived.Below
import Derived.SizedLaws
import Derived.Deep.Slices
import Derived.Deep.Fields
import Derived.ChangeSame
import Derived.Lib.SmallJoins
namespace Go.Proofs.Ytiphkgkhfomcaaa.ductNone
open Go.ChangeShapes Go.WideShapes Go.ChangeAt Go.RowKit Go.OpenShut Go.Deep Go.Joins Go.Proofs.Ytiphkgkhfomcaaa.Aid 
open Go.ChangeMaps (open_string shut_string)
theorem own : ownKnob Try.prog.godebug = none := by kernel_rfl
theorem laidOut : laidOutB Try.prog = true := by kernel_rfl
set_option maxRecDepth 100000 in
theorem lifted (os : Os) (started : os.Started) (H : Type) (enc : TypeId × Value → H) :
    ReturnsInHanded {} Try.checked os 10 .any (Rows.ductNoneSpec.pre6 enc Try.prog Try.f10 Rows.ductNoneRow.domain false) (Rows.ductNoneSpec.post enc Try.prog Try.f10 false true false false) := by
  refine returnsInHanded_of_change_sized (C := Try.checked) own started (by kernel_rfl) Try.func10
    (ChangeSpec.witness6 (enc := enc) (C := Try.checked) false ⟨#[], #[.slice none 0 0, .int .i64 0], []⟩ 8 (by kernel_rfl) (by kernel_rfl) (by kernel_rfl) (by kernel_rfl)) ?_
  intro W base args ds gs before hval0 hW hcnd hsz0 _
  have hsz : (DataW.weightsEach Try.prog (Try.f10.params.toList ++ Rows.ductNoneSpec.plain.varTypes Try.prog) (ds ++ gs)).all (· ≤ reachBytes) = true := hsz0
  have hval : ∀ (j : Nat) t v, Try.f10.params[j]? = some t → args[j]? = some v → Value.okWide Try.prog W .any base t v := hval0
  have hW' := hW
  obtain ⟨p, q, hA0, hV, rfl, hfz, hnd⟩ := hW
  have hA : DataW.TrodAll enc Try.prog W 0 (fun _ => true) true Try.f10.params.toList args.toList ds p := hA0
  rw [Try.params10] at hA hval hsz
  obtain ⟨v0, vs0, d0, ds0, p0, q0, hargs, rfl, rfl, h0, r0⟩ := trodAll_cons hA
  obtain ⟨v1, vs1, d1, ds1, p1, q1, rfl, rfl, rfl, h1, r1⟩ := trodAll_cons r0
  obtain ⟨rfl, rfl, rfl⟩ := trodAll_nil r1
  obtain rfl : args = #[v0, v1] := by cases args; simp_all
  obtain ⟨rfl, rfl⟩ := trodVars_none hV
  obtain ⟨a0, len0, cap0, rfl⟩ := okWide_slice Try.underlying61 (hval 0 61 v0 rfl rfl)
  have k0 := h0
  have lt0 : ∀ x ∈ p0, x.block < W.heap.size := by obtain ⟨m, hm⟩ := k0; exact DataW.trod_lt m _ _ _ hm
  obtain ⟨fuel0, hf0⟩ := h0
  obtain ⟨xs0, e0, g0, cp0, s0, R0, n0⟩ : ∃ xs : List Int, xs.length = len0 ∧ (∀ x ∈ xs, (Lit.int .u8 x).wf = true) ∧ len0 ≤ cap0 ∧ len0 * 1 ≤ 140737488351232 ∧ Aid.Reps W a0 1 (fun x => [.int .u8 x]) xs ∧ (a0 = none → cap0 = 0) := by
    rcases open_ints Try.underlying61 Try.underlying5 (by kernel_rfl) hf0 with ⟨hcs, _⟩ | ⟨x, l, c, zs, hcs, _, hl, hm, hz, hx, hcell, hwz⟩
    · simp [Value.cells] at hcs
      obtain ⟨rfl, rfl, rfl⟩ := hcs
      exact ⟨[], rfl, by simp, by simp, by simp, (by intro i x h; simp at h), fun _ => rfl⟩
    · simp [Value.cells] at hcs
      obtain ⟨rfl, rfl, rfl⟩ := hcs
      have hzl : zs.length = cap0 := by simpa using hz
      refine ⟨zs.take len0, by simp; omega, fun y hy => hwz y (List.mem_of_mem_take hy), hl, ?_, ?_, fun h => nomatch h⟩
      · obtain ⟨hx1, _⟩ := Prod.mk.inj hx
        subst hx1
        have z := sized_slice hsz (j := 0) (t := 61) (e := 5) rfl rfl Try.underlying61
        rw [show Try.prog.bytesOf 5 = 1 from by kernel_rfl] at z
        simp only [lits, List.length_map, List.length_take, List.length_drop, reachBytes] at z
        omega
      · intro i y hy
        have hlt : i < len0 := by have := (List.getElem?_eq_some_iff.1 hy).1; simp at this; omega
        have hc0 := hcell i (by omega)
        have hlb := World.block_lt_of_cell? W _ (hcell 0 (by omega))
        refine ⟨x, rfl, by simpa [Addr.add] using hlb, fun j v hv => ?_⟩
        match j, hv with
        | 0, hv =>
          simp at hv
          subst hv
          rw [List.getElem?_take_of_lt hlt] at hy
          simpa [List.getD_eq_getElem?_getD, hy] using hc0
        | j + 1, hv => simp at hv
  obtain ⟨a1, rfl, rfl, rfl, w1⟩ := open_int Try.underlying3 (hval 1 3 v1 rfl rfl) h1
  have b1 := bounds_i64 w1
  subst e0
  refine (Duct.none_walk _ a1 W).mono fun e W' ⟨he, bel⟩ => ?_
  subst he
  exact ⟨_, rfl, _, _, _, [], _, [], hW', trodAll_mk1 (shut_bool Try.underlying4 _), (trodAll_cons_mk (Below.trod laidOut (by kernel_rfl) (of_decide_eq_true (by kernel_rfl)) k0 bel lt0) (trodAll_cons_mk (shut_int Try.underlying3 w1) trodAll_mk0)), rfl, bel.frame _, fun h => by cases h⟩
theorem over : Rows.ductNoneRow.holds Try.pinned (OpenSpec.ofChange Rows.ductNoneSpec) :=
  OpenClaim.holds_of_wide 10 Try.f10 rfl rfl rfl rfl rfl rfl rfl ⟨rfl, rfl, rfl, rfl, rfl⟩ rfl rfl rfl rfl rfl (by kernel_rfl) Try.func10 (by kernel_rfl)
    (of_decide_eq_true (by kernel_rfl)) (by unfold Func.isWrapper; first | (rw [if_pos (by decide +kernel)]; kernel_rfl) | (rw [if_neg (by decide +kernel)]; exact ⟨rfl, rfl⟩))
    (fun os started H enc _ => lifted os started H enc)
theorem proved : Rows.DuctNoneSaid := over
end Go.Proofs.Ytiphkgkhfomcaaa.ductNone
namespace Go.Proofs.Ytiphkgkhfomcaaa
theorem ductNone_holds : Rows.DuctNoneSaid := ductNone.proved
end Go.Proofs.Ytiphkgkhfomcaaa
