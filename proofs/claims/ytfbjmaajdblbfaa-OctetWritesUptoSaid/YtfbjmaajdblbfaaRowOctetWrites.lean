/- Whatever numbers and bytes are written, up to a million in all: the bytes are as the document says. The second form: the writer, and the law, make one list of all. -/
import Derived.Test.YtfbjmaajdblbfaaRows
import Derived.Test.YtfbjmaajdblbfaaOctWrites
import Derived.WalkKit
import Derived.ProofKit
import Derived.OpenShut
import Derived.ShutString
import Derived.ChangeOld
import Derived.Below
import Derived.JoinedCond
import Derived.Deep.Slices
import Derived.Deep.Fields
import Derived.ChangeSame
import Derived.Lib.SmallJoins
namespace Go.Proofs.Ytfbjmaajdblbfaa.octetWrites
open Go.ChangeShapes Go.WideShapes Go.ChangeAt Go.RowKit Go.OpenShut Go.Deep Go.Joins Go.Proofs.Ytfbjmaajdblbfaa.Aid
open Go.Proofs.Ytfbjmaajdblbfaa
theorem own : ownKnob Try.prog.godebug = none := by kernel_rfl
theorem laidOut : laidOutB Try.prog = true := by kernel_rfl
theorem one_le {H : Type} (d : DataW H) : 1 ≤ Rows.uptoBulk d := by
  cases d with
  | lit l => cases l <;> simp [Rows.uptoBulk]
  | nil => simp [Rows.uptoBulk]
  | ptr d => simp [Rows.uptoBulk]
  | slice elems spare => simp [Rows.uptoBulk]
  | agg parts => simp [Rows.uptoBulk]
  | iface t d => simp [Rows.uptoBulk]
  | map entries => simp [Rows.uptoBulk]
  | held h => simp [Rows.uptoBulk]
theorem length_le {H : Type} (l : List (DataW H)) : l.length ≤ Rows.uptoBulkAll l := by
  induction l with
  | nil => simp [Rows.uptoBulkAll]
  | cons x r ih => have := one_le x; simp only [Rows.uptoBulkAll, List.length_cons]; omega
theorem mem_le {H : Type} : ∀ (l : List (DataW H)) (d : DataW H), d ∈ l → Rows.uptoBulk d ≤ Rows.uptoBulkAll l
  | x :: r, d, h => by
    simp only [Rows.uptoBulkAll]
    rcases List.mem_cons.1 h with rfl | h
    · omega
    · have := mem_le r d h
      omega
theorem total_le {H : Type} (f : Nat → Oct.Piece) (D : Nat → DataW H) : ∀ (is : List Nat), (∀ i ∈ is, (f i).bytes.length ≤ Rows.uptoBulk (D i)) → Oct.total (is.map f) ≤ Rows.uptoBulkAll (is.map D)
  | [], _ => by simp [Oct.total]
  | i :: t, h => by
    have h1 := h i (by simp)
    have h2 := total_le f D t (fun x hx => h x (by simp [hx]))
    simp only [Oct.total, List.map_cons, List.sum_cons, Rows.uptoBulkAll] at *
    omega
/-- One piece, opened. -/
theorem piece_of {H : Type} {enc : TypeId × Value → H} {W : World} {n : Nat} {cs' : List Value} {y : DataW H × List MemPlace} (ht' : DataW.trod enc Try.prog W 0 (fun _ => true) true n 50 cs' = some y) :
    ∃ p : Oct.Piece, Oct.WfPiece W p ∧ cs' = Oct.encP p ∧ p.bytes.length ≤ Rows.uptoBulk y.1 := by
  obtain ⟨ys, n', hn', hy, hlen, hyl, hf⟩ := DataW.trod_struct Try.underlying50 ht'
  rw [show Try.prog.cellsOf 50 = 3 from by kernel_rfl] at hlen
  obtain ⟨c0, c1, c2, rfl⟩ : ∃ c0 c1 c2, cs' = [c0, c1, c2] := by
    match cs', hlen with
    | [c0, c1, c2], _ => exact ⟨c0, c1, c2, rfl⟩
  have some_of : ∀ j, j < 3 → ∃ y, ys[j]? = some y := fun j hj => ⟨_, List.getElem?_eq_getElem (by rw [hyl]; exact hj)⟩
  obtain ⟨y0, e0⟩ := some_of 0 (by omega)
  have h0 : DataW.trod enc Try.prog W 0 (fun _ => true) true n' 5 ((List.drop 0 _).take (Try.prog.cellsOf 5)) = some y0 := (hf 0 _ rfl).trans e0
  rw [show Try.prog.cellsOf 5 = 1 from by kernel_rfl] at h0
  simp only [List.drop_zero, List.take_succ_cons, List.take_zero] at h0
  obtain ⟨z0, q0, _, g0⟩ := DataW.trod_int Try.underlying5 h0
  simp at q0
  subst q0
  obtain ⟨y1, e1⟩ := some_of 1 (by omega)
  have h1 : DataW.trod enc Try.prog W 0 (fun _ => true) true n' 3 ((List.drop 1 _).take (Try.prog.cellsOf 3)) = some y1 := (hf 1 _ rfl).trans e1
  rw [show Try.prog.cellsOf 3 = 1 from by kernel_rfl] at h1
  simp only [List.drop_succ_cons, List.drop_zero, List.take_succ_cons, List.take_zero] at h1
  obtain ⟨z1, q1, _, g1⟩ := DataW.trod_int Try.underlying3 h1
  simp at q1
  subst q1
  obtain ⟨y2, e2⟩ := some_of 2 (by omega)
  have h2 : DataW.trod enc Try.prog W 0 (fun _ => true) true n' 43 ((List.drop 2 _).take (Try.prog.cellsOf 43)) = some y2 := (hf 2 _ rfl).trans e2
  rw [show Try.prog.cellsOf 43 = 1 from by kernel_rfl] at h2
  simp only [List.drop_succ_cons, List.drop_zero, List.take_succ_cons, List.take_zero] at h2
  have b0 := bounds_u8 g0
  have hb : Rows.uptoBulk y2.1 ≤ Rows.uptoBulk y.1 := by
    rw [hy]
    have := mem_le (ys.map (·.1)) y2.1 (List.mem_map.2 ⟨y2, List.mem_of_getElem? e2, rfl⟩)
    simp only [Rows.uptoBulk]
    omega
  rcases open_ints Try.underlying43 Try.underlying5 (by kernel_rfl) h2 with ⟨hcs, _⟩ | ⟨x, l, c, zs, hcs, _, hl, hm, hz, hx, hcell, hwz⟩
  · obtain rfl : c2 = .slice none 0 0 := by simpa using hcs
    exact ⟨⟨z0, z1, none, 0, []⟩, ⟨b0, (fun _ => rfl), (by intro i x h; simp at h), (by simp)⟩, rfl, by simp⟩
  · obtain rfl : c2 = .slice (some x) l c := by simpa using hcs
    have hzl : zs.length = c := by simpa using hz
    have htl : (zs.take l).length = l := by simp; omega
    refine ⟨⟨z0, z1, some x, c, zs.take l⟩, ⟨b0, (fun h => by cases h), ?_, (fun y hy => bounds_u8 (hwz y (List.mem_of_mem_take hy)))⟩, (by simp [Oct.encP, Oct.encI, Oct.Piece.item, htl]), ?_⟩
    · intro i y hy
      have hlt : i < l := by have := (List.getElem?_eq_some_iff.1 hy).1; simp at this; omega
      have hc0 := hcell i (by omega)
      have hlb := World.block_lt_of_cell? W _ (hcell 0 (by omega))
      refine ⟨x, rfl, by simpa [Addr.add] using hlb, fun j v hv => ?_⟩
      match j, hv with
      | 0, hv =>
        simp [Oct.encB] at hv
        subst hv
        simp only at hy
        rw [List.getElem?_take_of_lt hlt] at hy
        simpa [List.getD_eq_getElem?_getD, hy] using hc0
      | j + 1, hv => simp [Oct.encB] at hv
    · refine Nat.le_trans ?_ hb
      rw [hx]
      have h3 := length_le (H := H) (lits .u8 (zs.take l))
      simp only [lits, List.length_map] at h3
      simp only [Rows.uptoBulk, lits]
      omega
theorem contract (H : Type) (enc : TypeId × Value → H) (W : World) (base : Nat) (args : Array Value) (ds gs : List (DataW H)) (before : List MemPlace)
    (hval0 : ∀ (j : Nat) t v, Try.f8.params[j]? = some t → args[j]? = some v → Value.okWide Try.prog W .any base t v)
    (hW : DataW.Whole enc Try.prog Try.f8.params.toList Rows.octetWritesSpec.vars false W args.toList ds gs before) (hk : Rows.uptoSmall H (ds ++ gs) = true) :
    Calls Try.prog 8 args W fun e W' => ∃ v, e = .returned v ∧ Rows.octetWritesSpec.post enc Try.prog Try.f8 false true false false W args v W' := by
  have hval := hval0
  have hW' := hW
  obtain ⟨p, q, hA0, hV, rfl, hfz, hnd⟩ := hW
  have hA : DataW.TrodAll enc Try.prog W 0 (fun _ => true) true Try.f8.params.toList args.toList ds p := hA0
  rw [Try.params8] at hA hval
  obtain ⟨v0, vs0, d0, ds0, p0, q0, hargs, rfl, rfl, h0, r0⟩ := trodAll_cons hA
  obtain ⟨rfl, rfl, rfl⟩ := trodAll_nil r0
  obtain rfl : args = #[v0] := by cases args; simp_all
  obtain ⟨rfl, rfl⟩ := trodVars_none hV
  obtain ⟨a0, len0, cap0, rfl⟩ := okWide_slice Try.underlying42 (hval 0 42 v0 rfl rfl)
  have k0 := h0
  have lt0 : ∀ x ∈ p0, x.block < W.heap.size := by obtain ⟨m, hm⟩ := k0; exact DataW.trod_lt m _ _ _ hm
  obtain ⟨fuel0, hf0⟩ := h0
  have hbulk : Rows.uptoBulk d0 ≤ 1048576 := by
    have h := of_decide_eq_true hk
    simp only [List.append_nil, Rows.uptoBulkAll] at h
    omega
  obtain ⟨ps, e0, hR, hP, hT, hl⟩ : ∃ ps : List Oct.Piece, ps.length = len0 ∧ Aid.Reps W a0 3 Oct.encP ps ∧ (∀ y ∈ ps, Oct.WfPiece W y) ∧ Oct.total ps ≤ 1048576 ∧ ps.length ≤ 1048576 := by
    rcases open_slice Try.underlying42 hf0 with ⟨hcs, _⟩ | ⟨x, l, c, m, n, D, Pl, hcs, _, hl, hm, hmm, hx, hi⟩
    · simp [Value.cells] at hcs
      obtain ⟨rfl, rfl, rfl⟩ := hcs
      exact ⟨[], rfl, (by intro i x h; simp at h), by simp, by simp [Oct.total], by simp⟩
    · simp [Value.cells] at hcs
      obtain ⟨rfl, rfl, rfl⟩ := hcs
      obtain ⟨hx1, _⟩ := Prod.mk.inj hx
      subst hx1
      have hall : ∀ i, ∃ p : Oct.Piece, i < len0 → Oct.WfPiece W p ∧ (∀ (j : Nat) (v : Value), (Oct.encP p)[j]? = some v → W.cell? (x.add (i * 3 + j)) = some v) ∧ p.bytes.length ≤ Rows.uptoBulk (D i) := by
        intro i
        by_cases hil : i < len0
        · obtain ⟨cs', hc, ht'⟩ := hi i (by rw [hmm]; split <;> omega)
          rw [show Try.prog.cellsOf 50 = 3 from by kernel_rfl] at hc
          obtain ⟨_, hcl, hat⟩ := World.cells?_some hc
          obtain ⟨p, hp, rfl, hb⟩ := piece_of ht'
          refine ⟨p, fun _ => ⟨hp, fun j v hv => ?_, hb⟩⟩
          have hj : j < 3 := by have := (List.getElem?_eq_some_iff.1 hv).1; simpa [Oct.encP, Oct.encI] using this
          rw [← Go.Deep.add_add, hat j hj]
          exact hv
        · exact ⟨⟨0, 0, none, 0, []⟩, fun h => absurd h hil⟩
      obtain ⟨f, hf⟩ := Classical.axiomOfChoice hall
      have hlen := length_le ((List.range len0).map D)
      simp only [Rows.uptoBulk, List.length_map, List.length_range] at hbulk hlen
      refine ⟨(List.range len0).map f, by simp, ?_, ?_, ?_, ?_⟩
      · intro i p hi2
        have hil : i < len0 := by have := (List.getElem?_eq_some_iff.1 hi2).1; simpa using this
        rw [List.getElem?_map, List.getElem?_range hil] at hi2
        obtain rfl : f i = p := by simpa using hi2
        obtain ⟨_, hc, _⟩ := hf i hil
        refine ⟨x, rfl, ?_, hc⟩
        have := World.block_lt_of_cell? W _ (hc 0 _ rfl)
        unfold Addr.add at this
        split at this <;> exact this
      · intro y hy
        obtain ⟨i, hi2, rfl⟩ := List.mem_map.1 hy
        exact (hf i (List.mem_range.1 hi2)).1
      · have := total_le f D (List.range len0) (fun i hi2 => (hf i (List.mem_range.1 hi2)).2.2)
        omega
      · rw [List.length_map, List.length_range]
        omega
  subst e0
  refine (Oct.writes_walk a0 cap0 ps W hR hP (by omega) (by omega)).mono fun e W' ⟨he, bel⟩ => ?_
  subst he
  exact ⟨_, rfl, _, _, _, [], _, [], hW', trodAll_mk1 (shut_bool Try.underlying4 _), (trodAll_cons_mk (Below.trod laidOut (by kernel_rfl) (of_decide_eq_true (by kernel_rfl)) k0 bel lt0) trodAll_mk0), rfl, bel.frame _, fun h => by cases h⟩
set_option maxRecDepth 100000 in
theorem lifted (os : Os) (started : os.Started) (H : Type) (enc : TypeId × Value → H) (F : Stop.Interp) :
    ReturnsInHanded {} Try.checked os 8 .any ((Rows.OpenSpec.upto Rows.octetWritesSpec).pre6 enc Try.prog Try.f8 Rows.octetWritesUptoRow.domain false) (((Rows.OpenSpec.upto Rows.octetWritesSpec).at F).post enc Try.prog Try.f8 false true false false) := by
  refine returnsInHanded_of_cond (C := Try.checked) (s := Rows.OpenSpec.upto Rows.octetWritesSpec) (k := Rows.uptoSmall) rfl own started (by kernel_rfl) Try.func8
    (OpenSpec.witness (enc := enc) (C := Try.checked) (s := Rows.OpenSpec.upto Rows.octetWritesSpec) (k := Rows.uptoSmall) rfl false ⟨#[], #[.slice none 0 0], []⟩ 8 (by kernel_rfl) (by kernel_rfl) (by kernel_rfl)
      (x := ([.nil], [], [])) (by kernel_rfl) rfl (by kernel_rfl)) ?_
  intro W base args ds gs before hval hW _ hk _
  exact contract H enc W base args ds gs before hval hW hk
theorem over : Rows.octetWritesUptoRow.holds Try.pinned (Rows.OpenSpec.upto Rows.octetWritesSpec) :=
  OpenClaim.holds_of_cond 8 Try.f8 rfl rfl rfl rfl rfl rfl rfl ⟨rfl, rfl, rfl, rfl, rfl⟩ rfl rfl rfl rfl rfl (by kernel_rfl) Try.func8 (by kernel_rfl)
    (of_decide_eq_true (by kernel_rfl)) (by unfold Func.isWrapper; first | (rw [if_pos (by decide +kernel)]; kernel_rfl) | (rw [if_neg (by decide +kernel)]; exact ⟨rfl, rfl⟩))
    (fun os started H enc _ F => lifted os started H enc F)
theorem proved : Rows.OctetWritesUptoSaid := over
end Go.Proofs.Ytfbjmaajdblbfaa.octetWrites
namespace Go.Proofs.Ytfbjmaajdblbfaa
theorem octetWritesUpto_holds : Rows.OctetWritesUptoSaid := octetWrites.proved
end Go.Proofs.Ytfbjmaajdblbfaa
