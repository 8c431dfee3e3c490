/- Whatever is cut, sent once more and comes once more (the law's own 600 calls): step by step a ledger tells what the document says, and a clone goes its own way. No conditions of ours. -/
import Derived.Test.YtaokiocpfpdmkaaRows
import Derived.Test.YtaokiocpfpdmkaaLedPlays
import Derived.WalkKit
import Derived.ProofKit
import Derived.OpenShut
import Derived.ShutString
import Derived.ChangeOld
import Derived.Below
import Derived.SizedLaws
import Derived.Deep.Slices
import Derived.Deep.Fields
import Derived.ChangeSame
import Derived.Lib.SmallJoins
namespace Go.Proofs.Ytaokiocpfpdmkaa.ledgerPlays
open Go.ChangeShapes Go.WideShapes Go.ChangeAt Go.RowKit Go.OpenShut Go.Deep Go.Joins Go.Proofs.Ytaokiocpfpdmkaa.Aid 
open Go.ChangeMaps (open_string shut_string)
theorem own : ownKnob Try.prog.godebug = none := by kernel_rfl
theorem laidOut : laidOutB Try.prog = true := by kernel_rfl
set_option maxRecDepth 100000 in
theorem lifted (os : Os) (started : os.Started) (H : Type) (enc : TypeId × Value → H) :
    ReturnsInHanded {} Try.checked os 9 .any (Rows.ledgerPlaysSpec.pre6 enc Try.prog Try.f9 Rows.ledgerPlaysRow.domain false) (Rows.ledgerPlaysSpec.post enc Try.prog Try.f9 false true false false) := by
  refine returnsInHanded_of_change_sized (C := Try.checked) own started (by kernel_rfl) Try.func9
    (ChangeSpec.witness6 (enc := enc) (C := Try.checked) false ⟨#[], #[.slice none 0 0], []⟩ 8 (by kernel_rfl) (by kernel_rfl) (by kernel_rfl) (by kernel_rfl)) ?_
  intro W base args ds gs before hval0 hW hcnd hsz0 _
  have hsz : (DataW.weightsEach Try.prog (Try.f9.params.toList ++ Rows.ledgerPlaysSpec.plain.varTypes Try.prog) (ds ++ gs)).all (· ≤ reachBytes) = true := hsz0
  have hval : ∀ (j : Nat) t v, Try.f9.params[j]? = some t → args[j]? = some v → Value.okWide Try.prog W .any base t v := hval0
  have hW' := hW
  obtain ⟨p, q, hA0, hV, rfl, hfz, hnd⟩ := hW
  have hA : DataW.TrodAll enc Try.prog W 0 (fun _ => true) true Try.f9.params.toList args.toList ds p := hA0
  rw [Try.params9] at hA hval hsz
  obtain ⟨v0, vs0, d0, ds0, p0, q0, hargs, rfl, rfl, h0, r0⟩ := trodAll_cons hA
  obtain ⟨rfl, rfl, rfl⟩ := trodAll_nil r0
  obtain rfl : args = #[v0] := by cases args; simp_all
  obtain ⟨rfl, rfl⟩ := trodVars_none hV
  obtain ⟨a0, len0, cap0, rfl⟩ := okWide_slice Try.underlying48 (hval 0 48 v0 rfl rfl)
  have k0 := h0
  have lt0 : ∀ x ∈ p0, x.block < W.heap.size := by obtain ⟨m, hm⟩ := k0; exact DataW.trod_lt m _ _ _ hm
  obtain ⟨fuel0, hf0⟩ := h0
  obtain ⟨xs0, e0, g0, cp0, s0, R0⟩ : ∃ xs : List Led.Op, xs.length = len0 ∧ (∀ x ∈ xs, Led.WfOp x) ∧ len0 ≤ cap0 ∧ len0 ≤ maxLen ∧ Aid.Reps W a0 5 Led.encOp xs := by
    rcases open_slice Try.underlying48 hf0 with ⟨hcs, _⟩ | ⟨x, l, c, m, n, D, Pl, hcs, _, hl, hm, hmm, hx, hi⟩
    · simp [Value.cells] at hcs
      obtain ⟨rfl, rfl, rfl⟩ := hcs
      exact ⟨[], rfl, by simp, by simp, by simp, by intro i x h; simp at h⟩
    · simp [Value.cells] at hcs
      obtain ⟨rfl, rfl, rfl⟩ := hcs
      have hall : ∀ i, i < len0 → ∃ x1 : Led.Op, Led.WfOp x1 ∧ ∀ (j : Nat) (v : Value), (Led.encOp x1)[j]? = some v → W.cell? (x.add (i * 5 + j)) = some v := by
        intro i hil
        obtain ⟨cs', hc, ht'⟩ := hi i (by rw [hmm]; split <;> omega)
        rw [show Try.prog.cellsOf 52 = 5 from by kernel_rfl] at hc
        obtain ⟨_, hcl, hat⟩ := World.cells?_some hc
        obtain ⟨ys, n', hn', hy, hlen, hyl, hf⟩ := DataW.trod_struct Try.underlying52 ht'
        obtain ⟨c0, c1, c2, c3, c4, rfl⟩ : ∃ c0 c1 c2 c3 c4, cs' = [c0, c1, c2, c3, c4] := by
          match cs', hcl with
          | [c0, c1, c2, c3, c4], _ => exact ⟨c0, c1, c2, c3, c4, rfl⟩
        have some_of : ∀ j, j < 4 → ∃ y, ys[j]? = some y := fun j hj => ⟨_, List.getElem?_eq_getElem (by rw [hyl]; exact hj)⟩
        obtain ⟨y0, e0⟩ := some_of 0 (by omega)
        have h0 : DataW.trod enc Try.prog W 0 (fun _ => true) true n' 5 ((List.drop 0 _).take (Try.prog.cellsOf 5)) = some y0 := (hf 0 _ rfl).trans e0
        rw [show Try.prog.cellsOf 5 = 1 from by kernel_rfl] at h0
        simp only [List.drop_zero, List.take_succ_cons, List.take_zero] at h0
        obtain ⟨z0, q0, _, g0⟩ := DataW.trod_int Try.underlying5 h0
        simp at q0
        subst q0
        obtain ⟨y1, e1⟩ := some_of 1 (by omega)
        have h1 : DataW.trod enc Try.prog W 0 (fun _ => true) true n' 3 ((List.drop 1 _).take (Try.prog.cellsOf 3)) = some y1 := (hf 1 _ rfl).trans e1
        rw [show Try.prog.cellsOf 3 = 1 from by kernel_rfl] at h1
        simp only [List.drop_succ_cons, List.drop_zero, List.take_succ_cons, List.take_zero] at h1
        obtain ⟨z1, q1, _, g1⟩ := DataW.trod_int Try.underlying3 h1
        simp at q1
        subst q1
        obtain ⟨y2, e2⟩ := some_of 2 (by omega)
        have h2 : DataW.trod enc Try.prog W 0 (fun _ => true) true n' 3 ((List.drop 2 _).take (Try.prog.cellsOf 3)) = some y2 := (hf 2 _ rfl).trans e2
        rw [show Try.prog.cellsOf 3 = 1 from by kernel_rfl] at h2
        simp only [List.drop_succ_cons, List.drop_zero, List.take_succ_cons, List.take_zero] at h2
        obtain ⟨z2, q2, _, g2⟩ := DataW.trod_int Try.underlying3 h2
        simp at q2
        subst q2
        obtain ⟨y3, e3⟩ := some_of 3 (by omega)
        have h3 : DataW.trod enc Try.prog W 0 (fun _ => true) true n' 26 ((List.drop 3 _).take (Try.prog.cellsOf 26)) = some y3 := (hf 3 _ rfl).trans e3
        rw [show Try.prog.cellsOf 26 = 2 from by kernel_rfl] at h3
        simp only [List.drop_succ_cons, List.drop_zero, List.take_succ_cons, List.take_zero] at h3
        obtain ⟨ys3, n3, hn3, hy3, hlen3, hyl3, hf3x⟩ := DataW.trod_struct Try.underlying26 h3
        have some_3 : ∀ j, j < 2 → ∃ y, ys3[j]? = some y := fun j hj => ⟨_, List.getElem?_eq_getElem (by rw [hyl3]; exact hj)⟩
        obtain ⟨y3_0, e3_0⟩ := some_3 0 (by omega)
        have h3_0 : DataW.trod enc Try.prog W 0 (fun _ => true) true n3 3 ((List.drop 0 _).take (Try.prog.cellsOf 3)) = some y3_0 := (hf3x 0 _ rfl).trans e3_0
        rw [show Try.prog.cellsOf 3 = 1 from by kernel_rfl] at h3_0
        simp only [List.drop_zero, List.take_succ_cons, List.take_zero] at h3_0
        obtain ⟨z3, q3, _, g3⟩ := DataW.trod_int Try.underlying3 h3_0
        simp at q3
        subst q3
        obtain ⟨y3_1, e3_1⟩ := some_3 1 (by omega)
        have h3_1 : DataW.trod enc Try.prog W 0 (fun _ => true) true n3 3 ((List.drop 1 _).take (Try.prog.cellsOf 3)) = some y3_1 := (hf3x 1 _ rfl).trans e3_1
        rw [show Try.prog.cellsOf 3 = 1 from by kernel_rfl] at h3_1
        simp only [List.drop_succ_cons, List.drop_zero, List.take_succ_cons, List.take_zero] at h3_1
        obtain ⟨z4, q4, _, g4⟩ := DataW.trod_int Try.underlying3 h3_1
        simp at q4
        subst q4
        have b0 := bounds_u8 g0
        have b1 := bounds_i64 g1
        have b2 := bounds_i64 g2
        have b3 := bounds_i64 g3
        have b4 := bounds_i64 g4
        refine ⟨⟨z0, z1, z2, ⟨z3, z4⟩⟩, b0, fun j v hv => ?_⟩
        have hj : j < 5 := by have := (List.getElem?_eq_some_iff.1 hv).1; simpa [Led.encOp] using this
        rw [← Go.Deep.add_add, hat j hj]
        simpa [Led.encOp] using hv
      by_cases h0 : len0 = 0
      · exact ⟨[], by simp [h0], by simp, hl, by omega, by intro i x h; simp at h⟩
      · obtain ⟨x1, _, hx1⟩ := hall 0 (by omega)
        have hlb : x.block < W.heap.size := by
          have hc := hx1 0 _ rfl
          have := World.block_lt_of_cell? W _ hc
          simpa [Addr.add] using this
        obtain ⟨xs, q1, q2, q3⟩ := Aid.reps_of (P := Led.WfOp) len0 hlb hall
        exact ⟨xs, q1, q2, hl, by omega, q3⟩
  subst e0
  refine (Led.plays_walk a0 cap0 xs0 W s0 g0 R0).mono fun e W' ⟨he, bel⟩ => ?_
  subst he
  exact ⟨_, rfl, _, _, _, [], _, [], hW', trodAll_mk1 (shut_bool Try.underlying4 _), (trodAll_cons_mk (Below.trod laidOut (by kernel_rfl) (of_decide_eq_true (by kernel_rfl)) k0 bel lt0) trodAll_mk0), rfl, bel.frame _, fun h => by cases h⟩
theorem over : Rows.ledgerPlaysRow.holds Try.pinned (OpenSpec.ofChange Rows.ledgerPlaysSpec) :=
  OpenClaim.holds_of_wide 9 Try.f9 rfl rfl rfl rfl rfl rfl rfl ⟨rfl, rfl, rfl, rfl, rfl⟩ rfl rfl rfl rfl rfl (by kernel_rfl) Try.func9 (by kernel_rfl)
    (of_decide_eq_true (by kernel_rfl)) (by unfold Func.isWrapper; first | (rw [if_pos (by decide +kernel)]; kernel_rfl) | (rw [if_neg (by decide +kernel)]; exact ⟨rfl, rfl⟩))
    (fun os started H enc _ => lifted os started H enc)
theorem proved : Rows.LedgerPlaysSaid := over
end Go.Proofs.Ytaokiocpfpdmkaa.ledgerPlays
namespace Go.Proofs.Ytaokiocpfpdmkaa
theorem ledgerPlays_holds : Rows.LedgerPlaysSaid := ledgerPlays.proved
end Go.Proofs.Ytaokiocpfpdmkaa
