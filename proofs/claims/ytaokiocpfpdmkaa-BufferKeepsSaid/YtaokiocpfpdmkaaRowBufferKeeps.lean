/- What was written into a buffer is read, wherever it is cut, as long as it is not freed, and what is told is nobody else's. No conditions of ours. -/
import Derived.Test.YtaokiocpfpdmkaaRows
import Derived.Test.YtaokiocpfpdmkaaBufKeeps
import Derived.WalkKit
import Derived.ProofKit
import Derived.OpenShut
import Derived.ShutString
import Derived.ChangeOld
import Derived.Below
import Derived.SizedLaws
import Derived.Deep.Slices
import Derived.Deep.Fields
import Derived.ChangeSame
import Derived.Lib.SmallJoins
namespace Go.Proofs.Ytaokiocpfpdmkaa.bufferKeeps
open Go.ChangeShapes Go.WideShapes Go.ChangeAt Go.RowKit Go.OpenShut Go.Deep Go.Joins Go.Proofs.Ytaokiocpfpdmkaa.Aid 
open Go.ChangeMaps (open_string shut_string)
theorem own : ownKnob Try.prog.godebug = none := by kernel_rfl
theorem laidOut : laidOutB Try.prog = true := by kernel_rfl
set_option maxRecDepth 100000 in
theorem lifted (os : Os) (started : os.Started) (H : Type) (enc : TypeId × Value → H) :
    ReturnsInHanded {} Try.checked os 11 .any (Rows.bufferKeepsSpec.pre6 enc Try.prog Try.f11 Rows.bufferKeepsRow.domain false) (Rows.bufferKeepsSpec.post enc Try.prog Try.f11 false true false false) := by
  refine returnsInHanded_of_change_sized (C := Try.checked) own started (by kernel_rfl) Try.func11
    (ChangeSpec.witness6 (enc := enc) (C := Try.checked) false ⟨#[], #[.int .u16 0, .slice none 0 0, .slice none 0 0, .int .u16 0, .int .u16 0], []⟩ 8 (by kernel_rfl) (by kernel_rfl) (by kernel_rfl) (by kernel_rfl)) ?_
  intro W base args ds gs before hval0 hW hcnd hsz0 _
  have hsz : (DataW.weightsEach Try.prog (Try.f11.params.toList ++ Rows.bufferKeepsSpec.plain.varTypes Try.prog) (ds ++ gs)).all (· ≤ reachBytes) = true := hsz0
  have hval : ∀ (j : Nat) t v, Try.f11.params[j]? = some t → args[j]? = some v → Value.okWide Try.prog W .any base t v := hval0
  have hW' := hW
  obtain ⟨p, q, hA0, hV, rfl, hfz, hnd⟩ := hW
  have hA : DataW.TrodAll enc Try.prog W 0 (fun _ => true) true Try.f11.params.toList args.toList ds p := hA0
  rw [Try.params11] at hA hval hsz
  obtain ⟨v0, vs0, d0, ds0, p0, q0, hargs, rfl, rfl, h0, r0⟩ := trodAll_cons hA
  obtain ⟨v1, vs1, d1, ds1, p1, q1, rfl, rfl, rfl, h1, r1⟩ := trodAll_cons r0
  obtain ⟨v2, vs2, d2, ds2, p2, q2, rfl, rfl, rfl, h2, r2⟩ := trodAll_cons r1
  obtain ⟨v3, vs3, d3, ds3, p3, q3, rfl, rfl, rfl, h3, r3⟩ := trodAll_cons r2
  obtain ⟨v4, vs4, d4, ds4, p4, q4, rfl, rfl, rfl, h4, r4⟩ := trodAll_cons r3
  obtain ⟨rfl, rfl, rfl⟩ := trodAll_nil r4
  obtain rfl : args = #[v0, v1, v2, v3, v4] := by cases args; simp_all
  obtain ⟨rfl, rfl⟩ := trodVars_none hV
  obtain ⟨a0, rfl, rfl, rfl, w0⟩ := open_int Try.underlying67 (hval 0 67 v0 rfl rfl) h0
  have b0 := bounds_u16 w0
  obtain ⟨a1, len1, cap1, rfl⟩ := okWide_slice Try.underlying60 (hval 1 60 v1 rfl rfl)
  have k1 := h1
  have lt1 : ∀ x ∈ p1, x.block < W.heap.size := by obtain ⟨m, hm⟩ := k1; exact DataW.trod_lt m _ _ _ hm
  obtain ⟨fuel1, hf1⟩ := h1
  obtain ⟨xs1, e1, g1, cp1, s1, R1, n1⟩ : ∃ xs : List Int, xs.length = len1 ∧ (∀ x ∈ xs, (Lit.int .u8 x).wf = true) ∧ len1 ≤ cap1 ∧ len1 * 1 ≤ 140737488351232 ∧ Aid.Reps W a1 1 (fun x => [.int .u8 x]) xs ∧ (a1 = none → cap1 = 0) := by
    rcases open_ints Try.underlying60 Try.underlying5 (by kernel_rfl) hf1 with ⟨hcs, _⟩ | ⟨x, l, c, zs, hcs, _, hl, hm, hz, hx, hcell, hwz⟩
    · simp [Value.cells] at hcs
      obtain ⟨rfl, rfl, rfl⟩ := hcs
      exact ⟨[], rfl, by simp, by simp, by simp, (by intro i x h; simp at h), fun _ => rfl⟩
    · simp [Value.cells] at hcs
      obtain ⟨rfl, rfl, rfl⟩ := hcs
      have hzl : zs.length = cap1 := by simpa using hz
      refine ⟨zs.take len1, by simp; omega, fun y hy => hwz y (List.mem_of_mem_take hy), hl, ?_, ?_, fun h => nomatch h⟩
      · obtain ⟨hx1, _⟩ := Prod.mk.inj hx
        subst hx1
        have z := sized_slice hsz (j := 1) (t := 60) (e := 5) rfl rfl Try.underlying60
        rw [show Try.prog.bytesOf 5 = 1 from by kernel_rfl] at z
        simp only [lits, List.length_map, List.length_take, List.length_drop, reachBytes] at z
        omega
      · intro i y hy
        have hlt : i < len1 := by have := (List.getElem?_eq_some_iff.1 hy).1; simp at this; omega
        have hc0 := hcell i (by omega)
        have hlb := World.block_lt_of_cell? W _ (hcell 0 (by omega))
        refine ⟨x, rfl, by simpa [Addr.add] using hlb, fun j v hv => ?_⟩
        match j, hv with
        | 0, hv =>
          simp at hv
          subst hv
          rw [List.getElem?_take_of_lt hlt] at hy
          simpa [List.getD_eq_getElem?_getD, hy] using hc0
        | j + 1, hv => simp at hv
  obtain ⟨a2, len2, cap2, rfl⟩ := okWide_slice Try.underlying60 (hval 2 60 v2 rfl rfl)
  have k2 := h2
  have lt2 : ∀ x ∈ p2, x.block < W.heap.size := by obtain ⟨m, hm⟩ := k2; exact DataW.trod_lt m _ _ _ hm
  obtain ⟨fuel2, hf2⟩ := h2
  obtain ⟨xs2, e2, g2, cp2, s2, R2, n2⟩ : ∃ xs : List Int, xs.length = len2 ∧ (∀ x ∈ xs, (Lit.int .u8 x).wf = true) ∧ len2 ≤ cap2 ∧ len2 * 1 ≤ 140737488351232 ∧ Aid.Reps W a2 1 (fun x => [.int .u8 x]) xs ∧ (a2 = none → cap2 = 0) := by
    rcases open_ints Try.underlying60 Try.underlying5 (by kernel_rfl) hf2 with ⟨hcs, _⟩ | ⟨x, l, c, zs, hcs, _, hl, hm, hz, hx, hcell, hwz⟩
    · simp [Value.cells] at hcs
      obtain ⟨rfl, rfl, rfl⟩ := hcs
      exact ⟨[], rfl, by simp, by simp, by simp, (by intro i x h; simp at h), fun _ => rfl⟩
    · simp [Value.cells] at hcs
      obtain ⟨rfl, rfl, rfl⟩ := hcs
      have hzl : zs.length = cap2 := by simpa using hz
      refine ⟨zs.take len2, by simp; omega, fun y hy => hwz y (List.mem_of_mem_take hy), hl, ?_, ?_, fun h => nomatch h⟩
      · obtain ⟨hx1, _⟩ := Prod.mk.inj hx
        subst hx1
        have z := sized_slice hsz (j := 2) (t := 60) (e := 5) rfl rfl Try.underlying60
        rw [show Try.prog.bytesOf 5 = 1 from by kernel_rfl] at z
        simp only [lits, List.length_map, List.length_take, List.length_drop, reachBytes] at z
        omega
      · intro i y hy
        have hlt : i < len2 := by have := (List.getElem?_eq_some_iff.1 hy).1; simp at this; omega
        have hc0 := hcell i (by omega)
        have hlb := World.block_lt_of_cell? W _ (hcell 0 (by omega))
        refine ⟨x, rfl, by simpa [Addr.add] using hlb, fun j v hv => ?_⟩
        match j, hv with
        | 0, hv =>
          simp at hv
          subst hv
          rw [List.getElem?_take_of_lt hlt] at hy
          simpa [List.getD_eq_getElem?_getD, hy] using hc0
        | j + 1, hv => simp at hv
  obtain ⟨a3, rfl, rfl, rfl, w3⟩ := open_int Try.underlying67 (hval 3 67 v3 rfl rfl) h3
  have b3 := bounds_u16 w3
  obtain ⟨a4, rfl, rfl, rfl, w4⟩ := open_int Try.underlying67 (hval 4 67 v4 rfl rfl) h4
  have b4 := bounds_u16 w4
  subst e1
  subst e2
  refine (Buff.keeps_walk a0 a3 a4 a1 a2 cap1 cap2 xs1 xs2 W b0.1 (by omega) b3.1 (by omega) b4.1 (by omega) (by have := s1; unfold maxLen; omega) (by have := s2; unfold maxLen; omega) cp1 cp2 n1 n2 R1 R2).mono fun e W' ⟨he, bel⟩ => ?_
  subst he
  exact ⟨_, rfl, _, _, _, [], _, [], hW', trodAll_mk1 (shut_bool Try.underlying4 _), (trodAll_cons_mk (shut_int Try.underlying67 w0) (trodAll_cons_mk (Below.trod laidOut (by kernel_rfl) (of_decide_eq_true (by kernel_rfl)) k1 bel lt1) (trodAll_cons_mk (Below.trod laidOut (by kernel_rfl) (of_decide_eq_true (by kernel_rfl)) k2 bel lt2) (trodAll_cons_mk (shut_int Try.underlying67 w3) (trodAll_cons_mk (shut_int Try.underlying67 w4) trodAll_mk0))))), rfl, bel.frame _, fun h => by cases h⟩
theorem over : Rows.bufferKeepsRow.holds Try.pinned (OpenSpec.ofChange Rows.bufferKeepsSpec) :=
  OpenClaim.holds_of_wide 11 Try.f11 rfl rfl rfl rfl rfl rfl rfl ⟨rfl, rfl, rfl, rfl, rfl⟩ rfl rfl rfl rfl rfl (by kernel_rfl) Try.func11 (by kernel_rfl)
    (of_decide_eq_true (by kernel_rfl)) (by unfold Func.isWrapper; first | (rw [if_pos (by decide +kernel)]; kernel_rfl) | (rw [if_neg (by decide +kernel)]; exact ⟨rfl, rfl⟩))
    (fun os started H enc _ => lifted os started H enc)
theorem proved : Rows.BufferKeepsSaid := over
end Go.Proofs.Ytaokiocpfpdmkaa.bufferKeeps
namespace Go.Proofs.Ytaokiocpfpdmkaa
theorem bufferKeeps_holds : Rows.BufferKeepsSaid := bufferKeeps.proved
end Go.Proofs.Ytaokiocpfpdmkaa
