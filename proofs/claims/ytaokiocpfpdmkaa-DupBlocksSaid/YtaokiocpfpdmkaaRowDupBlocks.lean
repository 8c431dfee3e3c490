/- The blocks of any spans, of any first number, are as the document says. No conditions. -/
import Derived.Test.YtaokiocpfpdmkaaRows
import Derived.Test.YtaokiocpfpdmkaaBlocksWalk
import Derived.WalkKit
import Derived.ProofKit
import Derived.OpenShut
import Derived.ShutString
import Derived.ChangeOld
import Derived.Below
import Derived.SizedLaws
import Derived.Deep.Slices
import Derived.Deep.Fields
import Derived.ChangeSame
import Derived.Lib.SmallJoins
namespace Go.Proofs.Ytaokiocpfpdmkaa.dupBlocks
open Go.ChangeShapes Go.WideShapes Go.ChangeAt Go.RowKit Go.OpenShut Go.Deep Go.Joins Go.Proofs.Ytaokiocpfpdmkaa.Aid 
open Go.ChangeMaps (open_string shut_string)
theorem own : ownKnob Try.prog.godebug = none := by kernel_rfl
theorem laidOut : laidOutB Try.prog = true := by kernel_rfl
set_option maxRecDepth 100000 in
theorem lifted (os : Os) (started : os.Started) (H : Type) (enc : TypeId × Value → H) :
    ReturnsInHanded {} Try.checked os 5 .any (Rows.dupBlocksSpec.pre6 enc Try.prog Try.f5 Rows.dupBlocksRow.domain false) (Rows.dupBlocksSpec.post enc Try.prog Try.f5 false true false false) := by
  refine returnsInHanded_of_change_sized (C := Try.checked) own started (by kernel_rfl) Try.func5
    (ChangeSpec.witness6 (enc := enc) (C := Try.checked) false ⟨#[], #[.int .u32 0, .agg #[.int .i64 0, .int .i64 0], .slice none 0 0], []⟩ 8 (by kernel_rfl) (by kernel_rfl) (by kernel_rfl) (by kernel_rfl)) ?_
  intro W base args ds gs before hval0 hW hcnd hsz0 _
  have hsz : (DataW.weightsEach Try.prog (Try.f5.params.toList ++ Rows.dupBlocksSpec.plain.varTypes Try.prog) (ds ++ gs)).all (· ≤ reachBytes) = true := hsz0
  have hval : ∀ (j : Nat) t v, Try.f5.params[j]? = some t → args[j]? = some v → Value.okWide Try.prog W .any base t v := hval0
  have hW' := hW
  obtain ⟨p, q, hA0, hV, rfl, hfz, hnd⟩ := hW
  have hA : DataW.TrodAll enc Try.prog W 0 (fun _ => true) true Try.f5.params.toList args.toList ds p := hA0
  rw [Try.params5] at hA hval hsz
  obtain ⟨v0, vs0, d0, ds0, p0, q0, hargs, rfl, rfl, h0, r0⟩ := trodAll_cons hA
  obtain ⟨v1, vs1, d1, ds1, p1, q1, rfl, rfl, rfl, h1, r1⟩ := trodAll_cons r0
  obtain ⟨v2, vs2, d2, ds2, p2, q2, rfl, rfl, rfl, h2, r2⟩ := trodAll_cons r1
  obtain ⟨rfl, rfl, rfl⟩ := trodAll_nil r2
  obtain rfl : args = #[v0, v1, v2] := by cases args; simp_all
  obtain ⟨rfl, rfl⟩ := trodVars_none hV
  obtain ⟨a0, rfl, rfl, rfl, w0⟩ := open_int Try.underlying22 (hval 0 22 v0 rfl rfl) h0
  have b0 := bounds_u32 w0
  have k1 := h1
  have lt1 : ∀ x ∈ p1, x.block < W.heap.size := by obtain ⟨m, hm⟩ := k1; exact DataW.trod_lt m _ _ _ hm
  obtain ⟨c1_0, c1_1, y1_0, y1_1, m1, rfl, rfl, rfl, t1_0, t1_1⟩ := open_agg2 Try.underlying26 (by kernel_rfl) (by kernel_rfl) (hval 1 26 v1 rfl rfl) h1
  obtain ⟨z1_0, q1_0, _, g1_0⟩ := DataW.trod_int Try.underlying3 t1_0
  simp at q1_0
  subst q1_0
  have b1_0 := bounds_i64 g1_0
  obtain ⟨z1_1, q1_1, _, g1_1⟩ := DataW.trod_int Try.underlying3 t1_1
  simp at q1_1
  subst q1_1
  have b1_1 := bounds_i64 g1_1
  obtain ⟨a2, len2, cap2, rfl⟩ := okWide_slice Try.underlying27 (hval 2 27 v2 rfl rfl)
  have k2 := h2
  have lt2 : ∀ x ∈ p2, x.block < W.heap.size := by obtain ⟨m, hm⟩ := k2; exact DataW.trod_lt m _ _ _ hm
  obtain ⟨fuel2, hf2⟩ := h2
  obtain ⟨xs2, e2, g2, cp2, s2, R2, n2⟩ : ∃ xs : List Spans.Span, xs.length = len2 ∧ (∀ x ∈ xs, (fun _ => True) x) ∧ len2 ≤ cap2 ∧ len2 * 16 ≤ 140737488351232 ∧ Aid.Reps W a2 2 Led.encS xs ∧ (a2 = none → cap2 = 0) := by
    rcases open_slice_fields Try.underlying27 Try.underlying26 (by kernel_rfl) (by kernel_rfl) hf2 with ⟨hcs, _⟩ | ⟨x, l, c, m, D, Pl, hcs, _, hl, hm, hmm, hx, hi⟩
    · simp [Value.cells] at hcs
      obtain ⟨rfl, rfl, rfl⟩ := hcs
      exact ⟨[], rfl, by simp, by simp, by simp, (by intro i x h; simp at h), fun _ => rfl⟩
    · simp [Value.cells] at hcs
      obtain ⟨rfl, rfl, rfl⟩ := hcs
      have hbl2 : len2 * 16 ≤ 140737488351232 := by
        obtain ⟨hx1, _⟩ := Prod.mk.inj hx
        subst hx1
        have z := sized_slice hsz (j := 2) (t := 27) (e := 26) rfl rfl Try.underlying27
        rw [show Try.prog.bytesOf 26 = 16 from by kernel_rfl] at z
        simp only [List.length_map, List.length_range, reachBytes] at z
        omega
      have hall : ∀ i, i < len2 → ∃ x1 : Spans.Span, (fun _ => True) x1 ∧ ∀ (j : Nat) (v : Value), (Led.encS x1)[j]? = some v → W.cell? (x.add (i * 2 + j)) = some v := by
        intro i hil
        obtain ⟨ys, n, _, _, _, hf⟩ := hi i (by rw [hmm]; split <;> omega)
        obtain ⟨u0, y0, hc0, _, ht0⟩ := hf 0 _ rfl
        obtain ⟨z0, q0, _, g0⟩ := DataW.trod_int Try.underlying3 ht0
        simp at q0
        subst q0
        have b0 := bounds_i64 g0
        obtain ⟨u1, y1, hc1, _, ht1⟩ := hf 1 _ rfl
        obtain ⟨z1, q1, _, g1⟩ := DataW.trod_int Try.underlying3 ht1
        simp at q1
        subst q1
        have b1 := bounds_i64 g1
        refine ⟨⟨z0, z1⟩, trivial, fun j v hv => ?_⟩
        match j, hv with
        | 0, hv => simp [Led.encS] at hv; subst hv; exact hc0
        | 1, hv => simp [Led.encS] at hv; subst hv; exact hc1
        | j + 2, hv => simp [Led.encS] at hv
      by_cases h0 : len2 = 0
      · exact ⟨[], by simp [h0], by simp, hl, hbl2, (by intro i x h; simp at h), fun h => nomatch h⟩
      · obtain ⟨x1, _, hx1⟩ := hall 0 (by omega)
        have hlb : x.block < W.heap.size := by
          have hc := hx1 0 _ rfl
          have := World.block_lt_of_cell? W _ hc
          simpa [Addr.add] using this
        obtain ⟨xs, q1, q2, q3⟩ := Aid.reps_of (P := (fun _ => True)) len2 hlb hall
        exact ⟨xs, q1, q2, hl, hbl2, q3, fun h => nomatch h⟩
  subst e2
  refine (Dups.blocks_walk a0 ⟨z1_0, z1_1⟩ xs2 a2 cap2 W b0.1 (by omega) s2 n2 R2).mono fun e W' ⟨he, bel⟩ => ?_
  subst he
  exact ⟨_, rfl, _, _, _, [], _, [], hW', trodAll_mk1 (shut_bool Try.underlying4 _), (trodAll_cons_mk (shut_int Try.underlying22 w0) (trodAll_cons_mk (Below.trod laidOut (by kernel_rfl) (of_decide_eq_true (by kernel_rfl)) k1 bel lt1) (trodAll_cons_mk (Below.trod laidOut (by kernel_rfl) (of_decide_eq_true (by kernel_rfl)) k2 bel lt2) trodAll_mk0))), rfl, bel.frame _, fun h => by cases h⟩
theorem over : Rows.dupBlocksRow.holds Try.pinned (OpenSpec.ofChange Rows.dupBlocksSpec) :=
  OpenClaim.holds_of_wide 5 Try.f5 rfl rfl rfl rfl rfl rfl rfl ⟨rfl, rfl, rfl, rfl, rfl⟩ rfl rfl rfl rfl rfl (by kernel_rfl) Try.func5 (by kernel_rfl)
    (of_decide_eq_true (by kernel_rfl)) (by unfold Func.isWrapper; first | (rw [if_pos (by decide +kernel)]; kernel_rfl) | (rw [if_neg (by decide +kernel)]; exact ⟨rfl, rfl⟩))
    (fun os started H enc _ => lifted os started H enc)
theorem proved : Rows.DupBlocksSaid := over
end Go.Proofs.Ytaokiocpfpdmkaa.dupBlocks
namespace Go.Proofs.Ytaokiocpfpdmkaa
theorem dupBlocks_holds : Rows.DupBlocksSaid := dupBlocks.proved
end Go.Proofs.Ytaokiocpfpdmkaa
