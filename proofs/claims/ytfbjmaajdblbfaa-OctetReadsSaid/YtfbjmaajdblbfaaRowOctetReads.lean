/- Whatever is read of any bytes, step by step it tells what the document says. No conditions of ours. -/
import Derived.Test.YtfbjmaajdblbfaaRows
import Derived.Test.YtfbjmaajdblbfaaOctAll
import Derived.WalkKit
import Derived.ProofKit
import Derived.OpenShut
import Derived.ShutString
import Derived.ChangeOld
import Derived.Below
import Derived.SizedLaws
import Derived.Deep.Slices
import Derived.Deep.Fields
import Derived.ChangeSame
import Derived.Lib.SmallJoins
namespace Go.Proofs.Ytfbjmaajdblbfaa.octetReads
open Go.ChangeShapes Go.WideShapes Go.ChangeAt Go.RowKit Go.OpenShut Go.Deep Go.Joins Go.Proofs.Ytfbjmaajdblbfaa.Aid 
open Go.ChangeMaps (open_string shut_string)
theorem own : ownKnob Try.prog.godebug = none := by kernel_rfl
theorem laidOut : laidOutB Try.prog = true := by kernel_rfl
set_option maxRecDepth 100000 in
theorem lifted (os : Os) (started : os.Started) (H : Type) (enc : TypeId × Value → H) :
    ReturnsInHanded {} Try.checked os 10 .any (Rows.octetReadsSpec.pre6 enc Try.prog Try.f10 Rows.octetReadsRow.domain false) (Rows.octetReadsSpec.post enc Try.prog Try.f10 false true false false) := by
  refine returnsInHanded_of_change_sized (C := Try.checked) own started (by kernel_rfl) Try.func10
    (ChangeSpec.witness6 (enc := enc) (C := Try.checked) false ⟨#[], #[.slice none 0 0, .slice none 0 0], []⟩ 8 (by kernel_rfl) (by kernel_rfl) (by kernel_rfl) (by kernel_rfl)) ?_
  intro W base args ds gs before hval0 hW hcnd hsz0 _
  have hsz : (DataW.weightsEach Try.prog (Try.f10.params.toList ++ Rows.octetReadsSpec.plain.varTypes Try.prog) (ds ++ gs)).all (· ≤ reachBytes) = true := hsz0
  have hval : ∀ (j : Nat) t v, Try.f10.params[j]? = some t → args[j]? = some v → Value.okWide Try.prog W .any base t v := hval0
  have hW' := hW
  obtain ⟨p, q, hA0, hV, rfl, hfz, hnd⟩ := hW
  have hA : DataW.TrodAll enc Try.prog W 0 (fun _ => true) true Try.f10.params.toList args.toList ds p := hA0
  rw [Try.params10] at hA hval hsz
  obtain ⟨v0, vs0, d0, ds0, p0, q0, hargs, rfl, rfl, h0, r0⟩ := trodAll_cons hA
  obtain ⟨v1, vs1, d1, ds1, p1, q1, rfl, rfl, rfl, h1, r1⟩ := trodAll_cons r0
  obtain ⟨rfl, rfl, rfl⟩ := trodAll_nil r1
  obtain rfl : args = #[v0, v1] := by cases args; simp_all
  obtain ⟨rfl, rfl⟩ := trodVars_none hV
  obtain ⟨a0, len0, cap0, rfl⟩ := okWide_slice Try.underlying43 (hval 0 43 v0 rfl rfl)
  have k0 := h0
  have lt0 : ∀ x ∈ p0, x.block < W.heap.size := by obtain ⟨m, hm⟩ := k0; exact DataW.trod_lt m _ _ _ hm
  obtain ⟨fuel0, hf0⟩ := h0
  obtain ⟨xs0, e0, g0, cp0, s0, R0, n0⟩ : ∃ xs : List Int, xs.length = len0 ∧ (∀ x ∈ xs, (Lit.int .u8 x).wf = true) ∧ len0 ≤ cap0 ∧ len0 * 1 ≤ 140737488351232 ∧ Aid.Reps W a0 1 (fun x => [.int .u8 x]) xs ∧ (a0 = none → cap0 = 0) := by
    rcases open_ints Try.underlying43 Try.underlying5 (by kernel_rfl) hf0 with ⟨hcs, _⟩ | ⟨x, l, c, zs, hcs, _, hl, hm, hz, hx, hcell, hwz⟩
    · simp [Value.cells] at hcs
      obtain ⟨rfl, rfl, rfl⟩ := hcs
      exact ⟨[], rfl, by simp, by simp, by simp, (by intro i x h; simp at h), fun _ => rfl⟩
    · simp [Value.cells] at hcs
      obtain ⟨rfl, rfl, rfl⟩ := hcs
      have hzl : zs.length = cap0 := by simpa using hz
      refine ⟨zs.take len0, by simp; omega, fun y hy => hwz y (List.mem_of_mem_take hy), hl, ?_, ?_, fun h => nomatch h⟩
      · obtain ⟨hx1, _⟩ := Prod.mk.inj hx
        subst hx1
        have z := sized_slice hsz (j := 0) (t := 43) (e := 5) rfl rfl Try.underlying43
        rw [show Try.prog.bytesOf 5 = 1 from by kernel_rfl] at z
        simp only [lits, List.length_map, List.length_take, List.length_drop, reachBytes] at z
        omega
      · intro i y hy
        have hlt : i < len0 := by have := (List.getElem?_eq_some_iff.1 hy).1; simp at this; omega
        have hc0 := hcell i (by omega)
        have hlb := World.block_lt_of_cell? W _ (hcell 0 (by omega))
        refine ⟨x, rfl, by simpa [Addr.add] using hlb, fun j v hv => ?_⟩
        match j, hv with
        | 0, hv =>
          simp at hv
          subst hv
          rw [List.getElem?_take_of_lt hlt] at hy
          simpa [List.getD_eq_getElem?_getD, hy] using hc0
        | j + 1, hv => simp at hv
  obtain ⟨a1, len1, cap1, rfl⟩ := okWide_slice Try.underlying42 (hval 1 42 v1 rfl rfl)
  have k1 := h1
  have lt1 : ∀ x ∈ p1, x.block < W.heap.size := by obtain ⟨m, hm⟩ := k1; exact DataW.trod_lt m _ _ _ hm
  obtain ⟨fuel1, hf1⟩ := h1
  obtain ⟨xs1, e1, g1, cp1, s1, R1⟩ : ∃ xs : List Oct.Item, xs.length = len1 ∧ (∀ x ∈ xs, Oct.WfItem x) ∧ len1 ≤ cap1 ∧ len1 ≤ maxLen ∧ Aid.Reps W a1 3 Oct.encI xs := by
    rcases open_slice Try.underlying42 hf1 with ⟨hcs, _⟩ | ⟨x, l, c, m, n, D, Pl, hcs, _, hl, hm, hmm, hx, hi⟩
    · simp [Value.cells] at hcs
      obtain ⟨rfl, rfl, rfl⟩ := hcs
      exact ⟨[], rfl, by simp, by simp, by simp, by intro i x h; simp at h⟩
    · simp [Value.cells] at hcs
      obtain ⟨rfl, rfl, rfl⟩ := hcs
      have hall : ∀ i, i < len1 → ∃ x1 : Oct.Item, Oct.WfItem x1 ∧ ∀ (j : Nat) (v : Value), (Oct.encI x1)[j]? = some v → W.cell? (x.add (i * 3 + j)) = some v := by
        intro i hil
        obtain ⟨cs', hc, ht'⟩ := hi i (by rw [hmm]; split <;> omega)
        rw [show Try.prog.cellsOf 50 = 3 from by kernel_rfl] at hc
        obtain ⟨_, hcl, hat⟩ := World.cells?_some hc
        obtain ⟨ys, n', hn', hy, hlen, hyl, hf⟩ := DataW.trod_struct Try.underlying50 ht'
        obtain ⟨c0, c1, c2, rfl⟩ : ∃ c0 c1 c2, cs' = [c0, c1, c2] := by
          match cs', hcl with
          | [c0, c1, c2], _ => exact ⟨c0, c1, c2, rfl⟩
        have some_of : ∀ j, j < 3 → ∃ y, ys[j]? = some y := fun j hj => ⟨_, List.getElem?_eq_getElem (by rw [hyl]; exact hj)⟩
        obtain ⟨y0, e0⟩ := some_of 0 (by omega)
        have h0 : DataW.trod enc Try.prog W 0 (fun _ => true) true n' 5 ((List.drop 0 _).take (Try.prog.cellsOf 5)) = some y0 := (hf 0 _ rfl).trans e0
        rw [show Try.prog.cellsOf 5 = 1 from by kernel_rfl] at h0
        simp only [List.drop_zero, List.take_succ_cons, List.take_zero] at h0
        obtain ⟨z0, q0, _, g0⟩ := DataW.trod_int Try.underlying5 h0
        simp at q0
        subst q0
        obtain ⟨y1, e1⟩ := some_of 1 (by omega)
        have h1 : DataW.trod enc Try.prog W 0 (fun _ => true) true n' 3 ((List.drop 1 _).take (Try.prog.cellsOf 3)) = some y1 := (hf 1 _ rfl).trans e1
        rw [show Try.prog.cellsOf 3 = 1 from by kernel_rfl] at h1
        simp only [List.drop_succ_cons, List.drop_zero, List.take_succ_cons, List.take_zero] at h1
        obtain ⟨z1, q1, _, g1⟩ := DataW.trod_int Try.underlying3 h1
        simp at q1
        subst q1
        have b0 := bounds_u8 g0
        have b1 := bounds_i64 g1
        refine ⟨⟨z0, z1, c2⟩, b0, fun j v hv => ?_⟩
        have hj : j < 3 := by have := (List.getElem?_eq_some_iff.1 hv).1; simpa [Oct.encI] using this
        rw [← Go.Deep.add_add, hat j hj]
        simpa [Oct.encI] using hv
      by_cases h0 : len1 = 0
      · exact ⟨[], by simp [h0], by simp, hl, by omega, by intro i x h; simp at h⟩
      · obtain ⟨x1, _, hx1⟩ := hall 0 (by omega)
        have hlb : x.block < W.heap.size := by
          have hc := hx1 0 _ rfl
          have := World.block_lt_of_cell? W _ hc
          simpa [Addr.add] using this
        obtain ⟨xs, q1, q2, q3⟩ := Aid.reps_of (P := Oct.WfItem) len1 hlb hall
        exact ⟨xs, q1, q2, hl, by omega, q3⟩
  subst e0
  subst e1
  refine (Oct.reads_walk a0 cap0 xs0 a1 cap1 xs1 W n0 R0 cp0 (by have := s0; omega) (fun x hx => bounds_u8 (g0 x hx)) R1 g1 (by have := s1; unfold maxLen at this; omega)).mono fun e W' ⟨he, bel⟩ => ?_
  subst he
  exact ⟨_, rfl, _, _, _, [], _, [], hW', trodAll_mk1 (shut_bool Try.underlying4 _), (trodAll_cons_mk (Below.trod laidOut (by kernel_rfl) (of_decide_eq_true (by kernel_rfl)) k0 bel lt0) (trodAll_cons_mk (Below.trod laidOut (by kernel_rfl) (of_decide_eq_true (by kernel_rfl)) k1 bel lt1) trodAll_mk0)), rfl, bel.frame _, fun h => by cases h⟩
theorem over : Rows.octetReadsRow.holds Try.pinned (OpenSpec.ofChange Rows.octetReadsSpec) :=
  OpenClaim.holds_of_wide 10 Try.f10 rfl rfl rfl rfl rfl rfl rfl ⟨rfl, rfl, rfl, rfl, rfl⟩ rfl rfl rfl rfl rfl (by kernel_rfl) Try.func10 (by kernel_rfl)
    (of_decide_eq_true (by kernel_rfl)) (by unfold Func.isWrapper; first | (rw [if_pos (by decide +kernel)]; kernel_rfl) | (rw [if_neg (by decide +kernel)]; exact ⟨rfl, rfl⟩))
    (fun os started H enc _ => lifted os started H enc)
theorem proved : Rows.OctetReadsSaid := over
end Go.Proofs.Ytfbjmaajdblbfaa.octetReads
namespace Go.Proofs.Ytfbjmaajdblbfaa
theorem octetReads_holds : Rows.OctetReadsSaid := octetReads.proved
end Go.Proofs.Ytfbjmaajdblbfaa
