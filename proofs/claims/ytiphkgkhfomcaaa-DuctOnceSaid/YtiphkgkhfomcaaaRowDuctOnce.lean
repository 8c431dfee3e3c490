/- Each copy comes or is dropped once at most, no earlier than it was put, with the bytes that were put; those that came, were dropped and are under way are all. No conditions of ours. -/
import Derived.Test.YtiphkgkhfomcaaaRows
import Derived.Test.YtiphkgkhfomcaaaDuctOnce
import Derived.WalkKit
import Derived.ProofKit
import Derived.OpenShut
import Derived.ShutString
import Derived.ChangeOld
import Derived.Below
import Derived.SizedLaws
import Derived.Deep.Slices
import Derived.Deep.Fields
import Derived.Deep.Matrix
import Derived.ChangeSame
import Derived.Lib.SmallJoins
namespace Go.Proofs.Ytiphkgkhfomcaaa.ductOnce
open Go.ChangeShapes Go.WideShapes Go.ChangeAt Go.RowKit Go.OpenShut Go.Deep Go.Joins Go.Proofs.Ytiphkgkhfomcaaa.Aid 
open Go.ChangeMaps (open_string shut_string)
instance : Inhabited Duct.OpV := ⟨⟨0, 0, .slice none 0 0, 0⟩⟩
theorem own : ownKnob Try.prog.godebug = none := by kernel_rfl
theorem laidOut : laidOutB Try.prog = true := by kernel_rfl
set_option maxRecDepth 100000 in
theorem lifted (os : Os) (started : os.Started) (H : Type) (enc : TypeId × Value → H) :
    ReturnsInHanded {} Try.checked os 7 .any (Rows.ductOnceSpec.pre6 enc Try.prog Try.f7 Rows.ductOnceRow.domain false) (Rows.ductOnceSpec.post enc Try.prog Try.f7 false true false false) := by
  refine returnsInHanded_of_change_sized (C := Try.checked) own started (by kernel_rfl) Try.func7
    (ChangeSpec.witness6 (enc := enc) (C := Try.checked) false ⟨#[], #[.slice none 0 0, .slice none 0 0], []⟩ 8 (by kernel_rfl) (by kernel_rfl) (by kernel_rfl) (by kernel_rfl)) ?_
  intro W base args ds gs before hval0 hW hcnd hsz0 _
  have hsz : (DataW.weightsEach Try.prog (Try.f7.params.toList ++ Rows.ductOnceSpec.plain.varTypes Try.prog) (ds ++ gs)).all (· ≤ reachBytes) = true := hsz0
  have hval : ∀ (j : Nat) t v, Try.f7.params[j]? = some t → args[j]? = some v → Value.okWide Try.prog W .any base t v := hval0
  have hW' := hW
  obtain ⟨p, q, hA0, hV, rfl, hfz, hnd⟩ := hW
  have hA : DataW.TrodAll enc Try.prog W 0 (fun _ => true) true Try.f7.params.toList args.toList ds p := hA0
  rw [Try.params7] at hA hval hsz
  obtain ⟨v0, vs0, d0, ds0, p0, q0, hargs, rfl, rfl, h0, r0⟩ := trodAll_cons hA
  obtain ⟨v1, vs1, d1, ds1, p1, q1, rfl, rfl, rfl, h1, r1⟩ := trodAll_cons r0
  obtain ⟨rfl, rfl, rfl⟩ := trodAll_nil r1
  obtain rfl : args = #[v0, v1] := by cases args; simp_all
  obtain ⟨rfl, rfl⟩ := trodVars_none hV
  obtain ⟨a0, len0, cap0, rfl⟩ := okWide_slice Try.underlying55 (hval 0 55 v0 rfl rfl)
  have k0 := h0
  have lt0 : ∀ x ∈ p0, x.block < W.heap.size := by obtain ⟨m, hm⟩ := k0; exact DataW.trod_lt m _ _ _ hm
  obtain ⟨fuel0, hf0⟩ := h0
  obtain ⟨xs0, e0, g0, cp0, s0, R0⟩ : ∃ xs : List Duct.Rw, xs.length = len0 ∧ (∀ x ∈ xs, Duct.RwOk W x) ∧ len0 ≤ cap0 ∧ len0 ≤ maxLen ∧ Aid.Reps W a0 1 Duct.encR xs := by
    rcases open_int_rows Try.underlying55 Try.underlying61 Try.underlying5 (by kernel_rfl) (by kernel_rfl) hf0 with ⟨hcs, _⟩ | ⟨x, l, c, A, L, C, Z, hcs, _, hl, hm, hx, hcell⟩
    · simp [Value.cells] at hcs
      obtain ⟨rfl, rfl, rfl⟩ := hcs
      exact ⟨[], rfl, by simp, by simp, by simp, by intro i x h; simp at h⟩
    · simp [Value.cells] at hcs
      obtain ⟨rfl, rfl, rfl⟩ := hcs
      refine ⟨(List.range len0).map (fun i => (⟨A i, (Z i).take (L i), C i⟩ : Duct.Rw)), by simp, ?_, hl, by omega, ?_⟩
      · intro r hr
        obtain ⟨i, hi, rfl⟩ := List.mem_map.1 hr
        have hil := List.mem_range.1 hi
        obtain ⟨_, hlc, hcm, hz, hwz, hcn, hca⟩ := hcell i (by omega)
        refine ⟨?_, hcn, by unfold maxLen at hcm; simp only [List.length_take]; omega⟩
        intro j y hy
        simp only at hy ⊢
        have hjl : j < L i := by have := (List.getElem?_eq_some_iff.1 hy).1; simp at this; omega
        have hjz : j < (Z i).length := by omega
        cases hA : A i with
        | none => have := hcn hA; omega
        | some ad =>
          obtain ⟨_, hc⟩ := hca ad hA
          have hlb := World.block_lt_of_cell? W _ (hc 0 (by omega))
          refine ⟨ad, rfl, by simpa [Duct.add_block] using hlb, fun m v hv => ?_⟩
          match m, hv with
          | 0, hv =>
            simp [Byt.encB] at hv
            subst hv
            rw [List.getElem?_take_of_lt hjl] at hy
            have := hc j (by omega)
            simpa [List.getD_eq_getElem?_getD, hy] using this
          | m + 1, hv => simp [Byt.encB] at hv
      · intro i r hi
        have hil : i < len0 := by have := (List.getElem?_eq_some_iff.1 hi).1; simpa using this
        have hr : r = ⟨A i, (Z i).take (L i), C i⟩ := by
          rw [List.getElem?_map, List.getElem?_range hil] at hi
          simpa using hi.symm
        subst hr
        obtain ⟨hc, hlc, _, hz, _⟩ := hcell i (by omega)
        have hlb := World.block_lt_of_cell? W _ hc
        refine ⟨x, rfl, by simpa [Duct.add_block] using hlb, fun j v hv => ?_⟩
        match j, hv with
        | 0, hv =>
          simp only [Duct.encR, List.length_take, hz] at hv
          rw [Nat.min_eq_left hlc] at hv
          simp at hv
          subst hv
          simpa using hc
        | j + 1, hv => simp [Duct.encR] at hv
  obtain ⟨a1, len1, cap1, rfl⟩ := okWide_slice Try.underlying56 (hval 1 56 v1 rfl rfl)
  have k1 := h1
  have lt1 : ∀ x ∈ p1, x.block < W.heap.size := by obtain ⟨m, hm⟩ := k1; exact DataW.trod_lt m _ _ _ hm
  obtain ⟨fuel1, hf1⟩ := h1
  obtain ⟨xs1, e1, g1, cp1, s1, R1⟩ : ∃ xs : List Duct.OpV, xs.length = len1 ∧ (∀ x ∈ xs, Duct.OpOk x) ∧ len1 ≤ cap1 ∧ len1 ≤ maxLen ∧ Aid.Reps W a1 4 Duct.encO xs := by
    rcases open_slice Try.underlying56 hf1 with ⟨hcs, _⟩ | ⟨x, l, c, m, n, D, Pl, hcs, _, hl, hm, hmm, hx, hi⟩
    · simp [Value.cells] at hcs
      obtain ⟨rfl, rfl, rfl⟩ := hcs
      exact ⟨[], rfl, by simp, by simp, by simp, by intro i x h; simp at h⟩
    · simp [Value.cells] at hcs
      obtain ⟨rfl, rfl, rfl⟩ := hcs
      have hall : ∀ i, i < len1 → ∃ x1 : Duct.OpV, Duct.OpOk x1 ∧ ∀ (j : Nat) (v : Value), (Duct.encO x1)[j]? = some v → W.cell? (x.add (i * 4 + j)) = some v := by
        intro i hil
        obtain ⟨cs', hc, ht'⟩ := hi i (by rw [hmm]; split <;> omega)
        rw [show Try.prog.cellsOf 63 = 4 from by kernel_rfl] at hc
        obtain ⟨_, hcl, hat⟩ := World.cells?_some hc
        obtain ⟨ys, n', hn', hy, hlen, hyl, hf⟩ := DataW.trod_struct Try.underlying63 ht'
        obtain ⟨c0, c1, c2, c3, rfl⟩ : ∃ c0 c1 c2 c3, cs' = [c0, c1, c2, c3] := by
          match cs', hcl with
          | [c0, c1, c2, c3], _ => exact ⟨c0, c1, c2, c3, rfl⟩
        have some_of : ∀ j, j < 4 → ∃ y, ys[j]? = some y := fun j hj => ⟨_, List.getElem?_eq_getElem (by rw [hyl]; exact hj)⟩
        obtain ⟨y0, e0⟩ := some_of 0 (by omega)
        have h0 : DataW.trod enc Try.prog W 0 (fun _ => true) true n' 5 ((List.drop 0 _).take (Try.prog.cellsOf 5)) = some y0 := (hf 0 _ rfl).trans e0
        rw [show Try.prog.cellsOf 5 = 1 from by kernel_rfl] at h0
        simp only [List.drop_zero, List.take_succ_cons, List.take_zero] at h0
        obtain ⟨z0, q0, _, g0⟩ := DataW.trod_int Try.underlying5 h0
        simp at q0
        subst q0
        obtain ⟨y1, e1⟩ := some_of 1 (by omega)
        have h1 : DataW.trod enc Try.prog W 0 (fun _ => true) true n' 3 ((List.drop 1 _).take (Try.prog.cellsOf 3)) = some y1 := (hf 1 _ rfl).trans e1
        rw [show Try.prog.cellsOf 3 = 1 from by kernel_rfl] at h1
        simp only [List.drop_succ_cons, List.drop_zero, List.take_succ_cons, List.take_zero] at h1
        obtain ⟨z1, q1, _, g1⟩ := DataW.trod_int Try.underlying3 h1
        simp at q1
        subst q1
        obtain ⟨y3, e3⟩ := some_of 3 (by omega)
        have h3 : DataW.trod enc Try.prog W 0 (fun _ => true) true n' 3 ((List.drop 3 _).take (Try.prog.cellsOf 3)) = some y3 := (hf 3 _ rfl).trans e3
        rw [show Try.prog.cellsOf 3 = 1 from by kernel_rfl] at h3
        simp only [List.drop_succ_cons, List.drop_zero, List.take_succ_cons, List.take_zero] at h3
        obtain ⟨z3, q3, _, g3⟩ := DataW.trod_int Try.underlying3 h3
        simp at q3
        subst q3
        have b0 := bounds_u8 g0
        have b1 := bounds_i64 g1
        have b3 := bounds_i64 g3
        refine ⟨⟨z0, z1, c2, z3⟩, ⟨b1, b0⟩, fun j v hv => ?_⟩
        have hj : j < 4 := by have := (List.getElem?_eq_some_iff.1 hv).1; simpa [Duct.encO] using this
        rw [← Go.Deep.add_add, hat j hj]
        simpa [Duct.encO] using hv
      by_cases h0 : len1 = 0
      · exact ⟨[], by simp [h0], by simp, hl, by omega, by intro i x h; simp at h⟩
      · obtain ⟨x1, _, hx1⟩ := hall 0 (by omega)
        have hlb : x.block < W.heap.size := by
          have hc := hx1 0 _ rfl
          have := World.block_lt_of_cell? W _ hc
          simpa [Addr.add] using this
        obtain ⟨xs, q1, q2, q3⟩ := Aid.reps_of (P := Duct.OpOk) len1 hlb hall
        exact ⟨xs, q1, q2, hl, by omega, q3⟩
  subst e0
  subst e1
  refine (Duct.once_walk a0 a1 cap0 cap1 xs0 xs1 W R0 g0 R1 g1 (by have := s0; unfold maxLen at this; omega) (by have := s1; unfold maxLen at this; omega)).mono fun e W' ⟨he, bel⟩ => ?_
  subst he
  exact ⟨_, rfl, _, _, _, [], _, [], hW', trodAll_mk1 (shut_bool Try.underlying4 _), (trodAll_cons_mk (Below.trod laidOut (by kernel_rfl) (of_decide_eq_true (by kernel_rfl)) k0 bel lt0) (trodAll_cons_mk (Below.trod laidOut (by kernel_rfl) (of_decide_eq_true (by kernel_rfl)) k1 bel lt1) trodAll_mk0)), rfl, bel.frame _, fun h => by cases h⟩
theorem over : Rows.ductOnceRow.holds Try.pinned (OpenSpec.ofChange Rows.ductOnceSpec) :=
  OpenClaim.holds_of_wide 7 Try.f7 rfl rfl rfl rfl rfl rfl rfl ⟨rfl, rfl, rfl, rfl, rfl⟩ rfl rfl rfl rfl rfl (by kernel_rfl) Try.func7 (by kernel_rfl)
    (of_decide_eq_true (by kernel_rfl)) (by unfold Func.isWrapper; first | (rw [if_pos (by decide +kernel)]; kernel_rfl) | (rw [if_neg (by decide +kernel)]; exact ⟨rfl, rfl⟩))
    (fun os started H enc _ => lifted os started H enc)
theorem proved : Rows.DuctOnceSaid := over
end Go.Proofs.Ytiphkgkhfomcaaa.ductOnce
namespace Go.Proofs.Ytiphkgkhfomcaaa
theorem ductOnce_holds : Rows.DuctOnceSaid := ductOnce.proved
end Go.Proofs.Ytiphkgkhfomcaaa
