/- Whatever is written, read and freed (the law's own 100 operations), of whatever first offset and whatever size: step by step a buffer tells what the document says, and has it; a clone goes its own way. No conditions of ours. -/
import Derived.Test.YtaokiocpfpdmkaaRows
import Derived.Test.YtaokiocpfpdmkaaBufPlays
import Derived.WalkKit
import Derived.ProofKit
import Derived.OpenShut
import Derived.ShutString
import Derived.ChangeOld
import Derived.Below
import Derived.SizedLaws
import Derived.Deep.Slices
import Derived.Deep.Fields
import Derived.ChangeSame
import Derived.Lib.SmallJoins
namespace Go.Proofs.Ytaokiocpfpdmkaa.bufferPlays
open Go.ChangeShapes Go.WideShapes Go.ChangeAt Go.RowKit Go.OpenShut Go.Deep Go.Joins Go.Proofs.Ytaokiocpfpdmkaa.Aid 
open Go.ChangeMaps (open_string shut_string)
theorem own : ownKnob Try.prog.godebug = none := by kernel_rfl
theorem laidOut : laidOutB Try.prog = true := by kernel_rfl
set_option maxRecDepth 100000 in
/-- One operation, opened. -/
theorem op_of {H : Type} {enc : TypeId × Value → H} {W : World} {n : Nat} {cs' : List Value} {y : DataW H × List MemPlace} (ht' : DataW.trod enc Try.prog W 0 (fun _ => true) true n 79 cs' = some y) :
    ∃ p : Buff.BOp, Buff.WfOp W p ∧ cs' = Buff.encOp p := by
  obtain ⟨ys, n', hn', hy, hlen, hyl, hf⟩ := DataW.trod_struct Try.underlying79 ht'
  rw [show Try.prog.cellsOf 79 = 5 from by kernel_rfl] at hlen
  obtain ⟨c0, c1, c2, c3, c4, rfl⟩ : ∃ c0 c1 c2 c3 c4, cs' = [c0, c1, c2, c3, c4] := by
    match cs', hlen with
    | [c0, c1, c2, c3, c4], _ => exact ⟨c0, c1, c2, c3, c4, rfl⟩
  have some_of : ∀ j, j < 4 → ∃ y, ys[j]? = some y := fun j hj => ⟨_, List.getElem?_eq_getElem (by rw [hyl]; exact hj)⟩
  obtain ⟨y0, e0⟩ := some_of 0 (by omega)
  have h0 : DataW.trod enc Try.prog W 0 (fun _ => true) true n' 5 ((List.drop 0 _).take (Try.prog.cellsOf 5)) = some y0 := (hf 0 _ rfl).trans e0
  rw [show Try.prog.cellsOf 5 = 1 from by kernel_rfl] at h0
  simp only [List.drop_zero, List.take_succ_cons, List.take_zero] at h0
  obtain ⟨z0, q0, _, g0⟩ := DataW.trod_int Try.underlying5 h0
  simp at q0
  subst q0
  obtain ⟨y1, e1⟩ := some_of 1 (by omega)
  have h1 : DataW.trod enc Try.prog W 0 (fun _ => true) true n' 60 ((List.drop 1 _).take (Try.prog.cellsOf 60)) = some y1 := (hf 1 _ rfl).trans e1
  rw [show Try.prog.cellsOf 60 = 1 from by kernel_rfl] at h1
  simp only [List.drop_succ_cons, List.drop_zero, List.take_succ_cons, List.take_zero] at h1
  obtain ⟨y2, e2⟩ := some_of 2 (by omega)
  have h2 : DataW.trod enc Try.prog W 0 (fun _ => true) true n' 3 ((List.drop 2 _).take (Try.prog.cellsOf 3)) = some y2 := (hf 2 _ rfl).trans e2
  rw [show Try.prog.cellsOf 3 = 1 from by kernel_rfl] at h2
  simp only [List.drop_succ_cons, List.drop_zero, List.take_succ_cons, List.take_zero] at h2
  obtain ⟨z2, q2, _, g2⟩ := DataW.trod_int Try.underlying3 h2
  simp at q2
  subst q2
  obtain ⟨y3, e3⟩ := some_of 3 (by omega)
  have h3 : DataW.trod enc Try.prog W 0 (fun _ => true) true n' 26 ((List.drop 3 _).take (Try.prog.cellsOf 26)) = some y3 := (hf 3 _ rfl).trans e3
  rw [show Try.prog.cellsOf 26 = 2 from by kernel_rfl] at h3
  simp only [List.drop_succ_cons, List.drop_zero, List.take_succ_cons, List.take_zero] at h3
  obtain ⟨ys3, n3, hn3, hy3, hlen3, hyl3, hf3⟩ := DataW.trod_struct Try.underlying26 h3
  have some_3 : ∀ j, j < 2 → ∃ y, ys3[j]? = some y := fun j hj => ⟨_, List.getElem?_eq_getElem (by rw [hyl3]; exact hj)⟩
  obtain ⟨u0, f0⟩ := some_3 0 (by omega)
  have k0 : DataW.trod enc Try.prog W 0 (fun _ => true) true n3 3 ((List.drop 0 _).take (Try.prog.cellsOf 3)) = some u0 := (hf3 0 _ rfl).trans f0
  rw [show Try.prog.cellsOf 3 = 1 from by kernel_rfl] at k0
  simp only [List.drop_zero, List.take_succ_cons, List.take_zero] at k0
  obtain ⟨z3, q3, _, g3⟩ := DataW.trod_int Try.underlying3 k0
  simp at q3
  subst q3
  obtain ⟨u1, f1⟩ := some_3 1 (by omega)
  have k1 : DataW.trod enc Try.prog W 0 (fun _ => true) true n3 3 ((List.drop 1 _).take (Try.prog.cellsOf 3)) = some u1 := (hf3 1 _ rfl).trans f1
  rw [show Try.prog.cellsOf 3 = 1 from by kernel_rfl] at k1
  simp only [List.drop_succ_cons, List.drop_zero, List.take_succ_cons, List.take_zero] at k1
  obtain ⟨z4, q4, _, g4⟩ := DataW.trod_int Try.underlying3 k1
  simp at q4
  subst q4
  have b0 := bounds_u8 g0
  rcases open_ints Try.underlying60 Try.underlying5 (by kernel_rfl) h1 with ⟨hcs, _⟩ | ⟨x, l, c, zs, hcs, _, hl, hm, hz, hx, hcell, hwz⟩
  · obtain rfl : c1 = .slice none 0 0 := by simpa using hcs
    exact ⟨⟨z0, none, 0, [], z2, ⟨z3, z4⟩⟩, ⟨b0.1, b0.2, (by simp), (fun _ => rfl), (by intro i x h; simp at h)⟩, rfl⟩
  · obtain rfl : c1 = .slice (some x) l c := by simpa using hcs
    have hzl : zs.length = c := by simpa using hz
    have htl : (zs.take l).length = l := by simp; omega
    refine ⟨⟨z0, some x, c, zs.take l, z2, ⟨z3, z4⟩⟩, ⟨b0.1, b0.2, (by rw [htl]; exact hl), (fun h => by cases h), ?_⟩, (by simp [Buff.encOp, htl])⟩
    intro i y hy
    have hlt : i < l := by have := (List.getElem?_eq_some_iff.1 hy).1; simp at this; omega
    have hc0 := hcell i (by omega)
    have hlb := World.block_lt_of_cell? W _ (hcell 0 (by omega))
    refine ⟨x, rfl, by simpa [Addr.add] using hlb, fun j v hv => ?_⟩
    match j, hv with
    | 0, hv =>
      simp [Buff.encB] at hv
      subst hv
      simp only at hy
      rw [List.getElem?_take_of_lt hlt] at hy
      simpa [List.getD_eq_getElem?_getD, hy] using hc0
    | j + 1, hv => simp [Buff.encB] at hv
set_option maxRecDepth 100000 in
theorem lifted (os : Os) (started : os.Started) (H : Type) (enc : TypeId × Value → H) :
    ReturnsInHanded {} Try.checked os 12 .any (Rows.bufferPlaysSpec.pre6 enc Try.prog Try.f12 Rows.bufferPlaysRow.domain false) (Rows.bufferPlaysSpec.post enc Try.prog Try.f12 false true false false) := by
  refine returnsInHanded_of_change_sized (C := Try.checked) own started (by kernel_rfl) Try.func12
    (ChangeSpec.witness6 (enc := enc) (C := Try.checked) false ⟨#[], #[.int .i64 0, .int .i64 0, .slice none 0 0, .agg #[.int .u8 0, .slice none 0 0, .int .i64 0, .int .i64 0, .int .i64 0]], []⟩ 8 (by kernel_rfl) (by kernel_rfl) (by kernel_rfl) (by kernel_rfl)) ?_
  intro W base args ds gs before hval0 hW hcnd hsz0 _
  have hval : ∀ (j : Nat) t v, Try.f12.params[j]? = some t → args[j]? = some v → Value.okWide Try.prog W .any base t v := hval0
  have hW' := hW
  obtain ⟨p, q, hA0, hV, rfl, hfz, hnd⟩ := hW
  have hA : DataW.TrodAll enc Try.prog W 0 (fun _ => true) true Try.f12.params.toList args.toList ds p := hA0
  rw [Try.params12] at hA hval
  obtain ⟨v0, vs0, d0, ds0, p0, q0, hargs, rfl, rfl, h0, r0⟩ := trodAll_cons hA
  obtain ⟨v1, vs1, d1, ds1, p1, q1, rfl, rfl, rfl, h1, r1⟩ := trodAll_cons r0
  obtain ⟨v2, vs2, d2, ds2, p2, q2, rfl, rfl, rfl, h2, r2⟩ := trodAll_cons r1
  obtain ⟨v3, vs3, d3, ds3, p3, q3, rfl, rfl, rfl, h3, r3⟩ := trodAll_cons r2
  obtain ⟨rfl, rfl, rfl⟩ := trodAll_nil r3
  obtain rfl : args = #[v0, v1, v2, v3] := by cases args; simp_all
  obtain ⟨rfl, rfl⟩ := trodVars_none hV
  obtain ⟨a0, rfl, rfl, rfl, w0⟩ := open_int Try.underlying3 (hval 0 3 v0 rfl rfl) h0
  obtain ⟨a1, rfl, rfl, rfl, w1⟩ := open_int Try.underlying3 (hval 1 3 v1 rfl rfl) h1
  obtain ⟨a2, len2, cap2, rfl⟩ := okWide_slice Try.underlying77 (hval 2 77 v2 rfl rfl)
  have k2 := h2
  have lt2 : ∀ x ∈ p2, x.block < W.heap.size := by obtain ⟨m, hm⟩ := k2; exact DataW.trod_lt m _ _ _ hm
  obtain ⟨fuel2, hf2⟩ := h2
  obtain ⟨ps, e2, hR, hP, hl2⟩ : ∃ ps : List Buff.BOp, ps.length = len2 ∧ Aid.Reps W a2 5 Buff.encOp ps ∧ (∀ y ∈ ps, Buff.WfOp W y) ∧ ps.length ≤ maxLen := by
    rcases open_slice Try.underlying77 hf2 with ⟨hcs, _⟩ | ⟨x, l, c, m, n, D, Pl, hcs, _, hl, hm, hmm, hx, hi⟩
    · simp [Value.cells] at hcs
      obtain ⟨rfl, rfl, rfl⟩ := hcs
      exact ⟨[], rfl, (by intro i x h; simp at h), by simp, by simp⟩
    · simp [Value.cells] at hcs
      obtain ⟨rfl, rfl, rfl⟩ := hcs
      have hall : ∀ i, ∃ p : Buff.BOp, i < len2 → Buff.WfOp W p ∧ ∀ (j : Nat) (v : Value), (Buff.encOp p)[j]? = some v → W.cell? (x.add (i * 5 + j)) = some v := by
        intro i
        by_cases hil : i < len2
        · obtain ⟨cs', hc, ht'⟩ := hi i (by rw [hmm]; split <;> omega)
          rw [show Try.prog.cellsOf 79 = 5 from by kernel_rfl] at hc
          obtain ⟨_, hcl, hat⟩ := World.cells?_some hc
          obtain ⟨p, hp, rfl⟩ := op_of ht'
          refine ⟨p, fun _ => ⟨hp, fun j v hv => ?_⟩⟩
          have hj : j < 5 := by have := (List.getElem?_eq_some_iff.1 hv).1; simpa [Buff.encOp] using this
          rw [← Go.Deep.add_add, hat j hj]
          exact hv
        · exact ⟨⟨0, none, 0, [], 0, ⟨0, 0⟩⟩, fun h => absurd h hil⟩
      obtain ⟨f, hf⟩ := Classical.axiomOfChoice hall
      refine ⟨(List.range len2).map f, by simp, ?_, ?_, ?_⟩
      · intro i p hi2
        have hil : i < len2 := by have := (List.getElem?_eq_some_iff.1 hi2).1; simpa using this
        rw [List.getElem?_map, List.getElem?_range hil] at hi2
        obtain rfl : f i = p := by simpa using hi2
        obtain ⟨_, hc⟩ := hf i hil
        refine ⟨x, rfl, ?_, hc⟩
        have := World.block_lt_of_cell? W _ (hc 0 _ rfl)
        unfold Addr.add at this
        split at this <;> exact this
      · intro y hy
        obtain ⟨i, hi2, rfl⟩ := List.mem_map.1 hy
        exact (hf i (List.mem_range.1 hi2)).1
      · rw [List.length_map, List.length_range]
        omega
  have k3 := h3
  have lt3 : ∀ x ∈ p3, x.block < W.heap.size := by obtain ⟨m, hm⟩ := k3; exact DataW.trod_lt m _ _ _ hm
  obtain ⟨cs3, rfl, hsz3⟩ := okWide_struct Try.underlying79 (hval 3 79 v3 rfl rfl)
  obtain ⟨fuel3, hf3⟩ := h3
  obtain ⟨o, hwo, hco⟩ := op_of hf3
  obtain ⟨l3⟩ := cs3
  obtain rfl : l3 = Buff.encOp o := by simpa [Value.cells] using hco
  subst e2
  have walk : Calls Try.prog 12 #[.int .i64 a0, .int .i64 a1, .slice a2 ps.length cap2, Buff.opVal o.k o.D o.p.length o.d o.t o.s] W (Spans.Gives W (.bool true)) := by
    by_cases he : a0 < 0 ∨ 4611686018427387904 < a0 ∨ a1 < 1 ∨ 65536 < a1
    · exact Buff.plays_err a0 a1 a2 ps.length cap2 o W he
    · obtain ⟨m, rfl⟩ : ∃ m : Nat, a1 = m := ⟨a1.toNat, by omega⟩
      exact Buff.plays_walk a0 m a2 cap2 ps o W (by omega) (by omega) (by omega) (by omega) hwo hP hl2 hR
  refine walk.mono fun e W' ⟨he, bel⟩ => ?_
  subst he
  exact ⟨_, rfl, _, _, _, [], _, [], hW', trodAll_mk1 (shut_bool Try.underlying4 _), (trodAll_cons_mk (shut_int Try.underlying3 w0) (trodAll_cons_mk (shut_int Try.underlying3 w1) (trodAll_cons_mk (Below.trod laidOut (by kernel_rfl) (of_decide_eq_true (by kernel_rfl)) k2 bel lt2) (trodAll_cons_mk (Below.trod laidOut (by kernel_rfl) (of_decide_eq_true (by kernel_rfl)) k3 bel lt3) trodAll_mk0)))), rfl, bel.frame _, fun h => by cases h⟩
theorem over : Rows.bufferPlaysRow.holds Try.pinned (OpenSpec.ofChange Rows.bufferPlaysSpec) :=
  OpenClaim.holds_of_wide 12 Try.f12 rfl rfl rfl rfl rfl rfl rfl ⟨rfl, rfl, rfl, rfl, rfl⟩ rfl rfl rfl rfl rfl (by kernel_rfl) Try.func12 (by kernel_rfl)
    (of_decide_eq_true (by kernel_rfl)) (by unfold Func.isWrapper; first | (rw [if_pos (by decide +kernel)]; kernel_rfl) | (rw [if_neg (by decide +kernel)]; exact ⟨rfl, rfl⟩))
    (fun os started H enc _ => lifted os started H enc)
theorem proved : Rows.BufferPlaysSaid := over
end Go.Proofs.Ytaokiocpfpdmkaa.bufferPlays
namespace Go.Proofs.Ytaokiocpfpdmkaa
theorem bufferPlays_holds : Rows.BufferPlaysSaid := bufferPlays.proved
end Go.Proofs.Ytaokiocpfpdmkaa
