/- Whatever is put, doubled, comes and is dropped, step by step a duct tells what the document says, and of each copy what became of it; a clone goes its own way. No conditions. -/
import Derived.Test.YtiphkgkhfomcaaaRows
import Derived.Test.YtiphkgkhfomcaaaDuctPlays
import Derived.WalkKit
import Derived.ProofKit
import Derived.OpenShut
import Derived.ShutString
import Derived.ChangeOld
import Derived.Below
import Derived.SizedLaws
import Derived.Deep.Slices
import Derived.Deep.Fields
import Derived.ChangeSame
import Derived.Lib.SmallJoins
namespace Go.Proofs.Ytiphkgkhfomcaaa.ductPlays
open Go.ChangeShapes Go.WideShapes Go.ChangeAt Go.RowKit Go.OpenShut Go.Deep Go.Joins Go.Proofs.Ytiphkgkhfomcaaa.Aid
open Go.ChangeMaps (open_string shut_string)
instance : Inhabited Duct.OpQ := ⟨⟨0, 0, none, [], 0, 0⟩⟩
theorem own : ownKnob Try.prog.godebug = none := by kernel_rfl
theorem laidOut : laidOutB Try.prog = true := by kernel_rfl
/-- An operation, opened. -/
theorem op_of {H : Type} {enc : TypeId × Value → H} {W : World} {n : Nat} {c0 c1 c2 c3 : Value} {y0 y1 y2 y3 : DataW H × List MemPlace}
    (h0 : DataW.trod enc Try.prog W 0 (fun _ => true) true n 5 [c0] = some y0) (h1 : DataW.trod enc Try.prog W 0 (fun _ => true) true n 3 [c1] = some y1) (h2 : DataW.trod enc Try.prog W 0 (fun _ => true) true n 61 [c2] = some y2) (h3 : DataW.trod enc Try.prog W 0 (fun _ => true) true n 3 [c3] = some y3) :
    ∃ o : Duct.OpQ, Duct.OpQok W o ∧ [c0, c1, c2, c3] = Duct.encQ o := by
  obtain ⟨z0, q0, _, g0⟩ := DataW.trod_int Try.underlying5 h0
  simp at q0
  subst q0
  obtain ⟨z1, q1, _, g1⟩ := DataW.trod_int Try.underlying3 h1
  simp at q1
  subst q1
  obtain ⟨z3, q3, _, g3⟩ := DataW.trod_int Try.underlying3 h3
  simp at q3
  subst q3
  have b0 := bounds_u8 g0
  have b1 := bounds_i64 g1
  have b3 := bounds_i64 g3
  rcases open_ints Try.underlying61 Try.underlying5 (by kernel_rfl) h2 with ⟨hcs, _⟩ | ⟨x, l, c, zs, hcs, _, hl, hm, hz, hx, hcell, hwz⟩
  · obtain rfl : c2 = .slice none 0 0 := by simpa using hcs
    exact ⟨⟨z0, z1, none, [], 0, z3⟩, ⟨b0.1, b0.2, b1, b3, ⟨none, 0, rfl, (by intro i x h; simp at h), fun _ => ⟨rfl, rfl⟩⟩, by simp⟩, rfl⟩
  · obtain rfl : c2 = .slice (some x) l c := by simpa using hcs
    have hzl : zs.length = c := by simpa using hz
    have htl : (zs.take l).length = l := by simp; omega
    refine ⟨⟨z0, z1, some x, zs.take l, c, z3⟩, ⟨b0.1, b0.2, b1, b3, ⟨some x, c, by simp only [htl], ?_, fun h => by cases h⟩, by unfold maxLen at hm; simp only [htl]; omega⟩, by simp [Duct.encQ, htl]⟩
    intro i y hy
    have hlt : i < l := by have := (List.getElem?_eq_some_iff.1 hy).1; simp at this; omega
    have hc0 := hcell i (by omega)
    have hlb := World.block_lt_of_cell? W _ (hcell 0 (by omega))
    refine ⟨x, rfl, by simpa [Addr.add] using hlb, fun j v hv => ?_⟩
    match j, hv with
    | 0, hv =>
      simp [Byt.encB] at hv
      subst hv
      simp only at hy
      rw [List.getElem?_take_of_lt hlt] at hy
      simpa [List.getD_eq_getElem?_getD, hy] using hc0
    | j + 1, hv => simp [Byt.encB] at hv
set_option maxRecDepth 100000 in
theorem lifted (os : Os) (started : os.Started) (H : Type) (enc : TypeId × Value → H) :
    ReturnsInHanded {} Try.checked os 9 .any (Rows.ductPlaysSpec.pre6 enc Try.prog Try.f9 Rows.ductPlaysRow.domain false) (Rows.ductPlaysSpec.post enc Try.prog Try.f9 false true false false) := by
  refine returnsInHanded_of_change_sized (C := Try.checked) own started (by kernel_rfl) Try.func9
    (ChangeSpec.witness6 (enc := enc) (C := Try.checked) false ⟨#[], #[.slice none 0 0, .agg #[.int .u8 0, .int .i64 0, .slice none 0 0, .int .i64 0]], []⟩ 8 (by kernel_rfl) (by kernel_rfl) (by kernel_rfl) (by kernel_rfl)) ?_
  intro W base args ds gs before hval0 hW hcnd hsz0 _
  have hval : ∀ (j : Nat) t v, Try.f9.params[j]? = some t → args[j]? = some v → Value.okWide Try.prog W .any base t v := hval0
  have hW' := hW
  obtain ⟨p, q, hA0, hV, rfl, hfz, hnd⟩ := hW
  have hA : DataW.TrodAll enc Try.prog W 0 (fun _ => true) true Try.f9.params.toList args.toList ds p := hA0
  rw [Try.params9] at hA hval
  obtain ⟨v0, vs0, d0, ds0, p0, q0, hargs, rfl, rfl, h0, r0⟩ := trodAll_cons hA
  obtain ⟨v1, vs1, d1, ds1, p1, q1, rfl, rfl, rfl, h1, r1⟩ := trodAll_cons r0
  obtain ⟨rfl, rfl, rfl⟩ := trodAll_nil r1
  obtain rfl : args = #[v0, v1] := by cases args; simp_all
  obtain ⟨rfl, rfl⟩ := trodVars_none hV
  obtain ⟨a0, len0, cap0, rfl⟩ := okWide_slice Try.underlying56 (hval 0 56 v0 rfl rfl)
  have k0 := h0
  have lt0 : ∀ x ∈ p0, x.block < W.heap.size := by obtain ⟨m, hm⟩ := k0; exact DataW.trod_lt m _ _ _ hm
  obtain ⟨fuel0, hf0⟩ := h0
  obtain ⟨xs0, e0, g0, cp0, s0, R0⟩ : ∃ xs : List Duct.OpQ, xs.length = len0 ∧ (∀ x ∈ xs, Duct.OpQok W x) ∧ len0 ≤ cap0 ∧ len0 ≤ maxLen ∧ Aid.Reps W a0 4 Duct.encQ xs := by
    rcases open_slice Try.underlying56 hf0 with ⟨hcs, _⟩ | ⟨x, l, c, m, n, D, Pl, hcs, _, hl, hm, hmm, hx, hi⟩
    · simp [Value.cells] at hcs
      obtain ⟨rfl, rfl, rfl⟩ := hcs
      exact ⟨[], rfl, by simp, by simp, by simp, by intro i x h; simp at h⟩
    · simp [Value.cells] at hcs
      obtain ⟨rfl, rfl, rfl⟩ := hcs
      have hall : ∀ i, i < len0 → ∃ x1 : Duct.OpQ, Duct.OpQok W x1 ∧ ∀ (j : Nat) (v : Value), (Duct.encQ x1)[j]? = some v → W.cell? (x.add (i * 4 + j)) = some v := by
        intro i hil
        obtain ⟨cs', hc, ht'⟩ := hi i (by rw [hmm]; split <;> omega)
        rw [show Try.prog.cellsOf 63 = 4 from by kernel_rfl] at hc
        obtain ⟨_, hcl, hat⟩ := World.cells?_some hc
        obtain ⟨ys, n', hn', hy, hlen, hyl, hf⟩ := DataW.trod_struct Try.underlying63 ht'
        obtain ⟨c0, c1, c2, c3, rfl⟩ : ∃ c0 c1 c2 c3, cs' = [c0, c1, c2, c3] := by
          match cs', hcl with
          | [c0, c1, c2, c3], _ => exact ⟨c0, c1, c2, c3, rfl⟩
        have some_of : ∀ j, j < 4 → ∃ y, ys[j]? = some y := fun j hj => ⟨_, List.getElem?_eq_getElem (by rw [hyl]; exact hj)⟩
        obtain ⟨y0, e0⟩ := some_of 0 (by omega)
        have h0 : DataW.trod enc Try.prog W 0 (fun _ => true) true n' 5 ((List.drop 0 _).take (Try.prog.cellsOf 5)) = some y0 := (hf 0 _ rfl).trans e0
        rw [show Try.prog.cellsOf 5 = 1 from by kernel_rfl] at h0
        simp only [List.drop_zero, List.take_succ_cons, List.take_zero] at h0
        obtain ⟨y1, e1⟩ := some_of 1 (by omega)
        have h1 : DataW.trod enc Try.prog W 0 (fun _ => true) true n' 3 ((List.drop 1 _).take (Try.prog.cellsOf 3)) = some y1 := (hf 1 _ rfl).trans e1
        rw [show Try.prog.cellsOf 3 = 1 from by kernel_rfl] at h1
        simp only [List.drop_succ_cons, List.drop_zero, List.take_succ_cons, List.take_zero] at h1
        obtain ⟨y2, e2⟩ := some_of 2 (by omega)
        have h2 : DataW.trod enc Try.prog W 0 (fun _ => true) true n' 61 ((List.drop 2 _).take (Try.prog.cellsOf 61)) = some y2 := (hf 2 _ rfl).trans e2
        rw [show Try.prog.cellsOf 61 = 1 from by kernel_rfl] at h2
        simp only [List.drop_succ_cons, List.drop_zero, List.take_succ_cons, List.take_zero] at h2
        obtain ⟨y3, e3⟩ := some_of 3 (by omega)
        have h3 : DataW.trod enc Try.prog W 0 (fun _ => true) true n' 3 ((List.drop 3 _).take (Try.prog.cellsOf 3)) = some y3 := (hf 3 _ rfl).trans e3
        rw [show Try.prog.cellsOf 3 = 1 from by kernel_rfl] at h3
        simp only [List.drop_succ_cons, List.drop_zero, List.take_succ_cons, List.take_zero] at h3
        obtain ⟨o, ho, he⟩ := op_of h0 h1 h2 h3
        refine ⟨o, ho, fun j v hv => ?_⟩
        rw [← he] at hv
        have hj : j < 4 := by have := (List.getElem?_eq_some_iff.1 hv).1; simpa using this
        rw [← Go.Deep.add_add, hat j hj]
        exact hv
      by_cases h0 : len0 = 0
      · exact ⟨[], by simp [h0], by simp, hl, by omega, by intro i x h; simp at h⟩
      · obtain ⟨x1, _, hx1⟩ := hall 0 (by omega)
        have hlb : x.block < W.heap.size := by
          have hc := hx1 0 _ rfl
          have := World.block_lt_of_cell? W _ hc
          simpa [Addr.add] using this
        obtain ⟨xs, q1, q2, q3⟩ := Aid.reps_of (P := Duct.OpQok W) len0 hlb hall
        exact ⟨xs, q1, q2, hl, by omega, q3⟩
  have k1 := h1
  have lt1 : ∀ x ∈ p1, x.block < W.heap.size := by obtain ⟨m, hm⟩ := k1; exact DataW.trod_lt m _ _ _ hm
  obtain ⟨c0, c1, c2, c3, y0, y1, y2, y3, m1, rfl, rfl, rfl, t0, t1, t2, t3⟩ := open_agg4 Try.underlying63 (by kernel_rfl) (by kernel_rfl) (hval 1 63 v1 rfl rfl) h1
  obtain ⟨o, ho, he⟩ := op_of t0 t1 t2 t3
  simp only [Duct.encQ, List.cons.injEq, and_true] at he
  obtain ⟨rfl, rfl, rfl, rfl⟩ := he
  subst e0
  refine (Duct.plays_walk a0 cap0 xs0 o W R0 g0 ho (by have := s0; unfold maxLen at this; omega)).mono fun e W' ⟨he, bel⟩ => ?_
  subst he
  exact ⟨_, rfl, _, _, _, [], _, [], hW', trodAll_mk1 (shut_bool Try.underlying4 _), (trodAll_cons_mk (Below.trod laidOut (by kernel_rfl) (of_decide_eq_true (by kernel_rfl)) k0 bel lt0) (trodAll_cons_mk (Below.trod laidOut (by kernel_rfl) (of_decide_eq_true (by kernel_rfl)) k1 bel lt1) trodAll_mk0)), rfl, bel.frame _, fun h => by cases h⟩
theorem over : Rows.ductPlaysRow.holds Try.pinned (OpenSpec.ofChange Rows.ductPlaysSpec) :=
  OpenClaim.holds_of_wide 9 Try.f9 rfl rfl rfl rfl rfl rfl rfl ⟨rfl, rfl, rfl, rfl, rfl⟩ rfl rfl rfl rfl rfl (by kernel_rfl) Try.func9 (by kernel_rfl)
    (of_decide_eq_true (by kernel_rfl)) (by unfold Func.isWrapper; first | (rw [if_pos (by decide +kernel)]; kernel_rfl) | (rw [if_neg (by decide +kernel)]; exact ⟨rfl, rfl⟩))
    (fun os started H enc _ => lifted os started H enc)
theorem proved : Rows.DuctPlaysSaid := over
end Go.Proofs.Ytiphkgkhfomcaaa.ductPlays
namespace Go.Proofs.Ytiphkgkhfomcaaa
theorem ductPlays_holds : Rows.DuctPlaysSaid := ductPlays.proved
end Go.Proofs.Ytiphkgkhfomcaaa
