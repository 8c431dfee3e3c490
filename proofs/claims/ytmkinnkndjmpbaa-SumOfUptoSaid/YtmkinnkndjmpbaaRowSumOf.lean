/- For any bytes up to a million of them, wherever they are cut, and any two words: the sum and the check are as the document says. The second form: joined makes one list of all. -/
import Derived.Test.YtmkinnkndjmpbaaRows
import Derived.Test.YtmkinnkndjmpbaaSumJoin
import Derived.WalkKit
import Derived.ProofKit
import Derived.OpenShut
import Derived.ShutString
import Derived.ChangeOld
import Derived.Below
import Derived.JoinedCond
import Derived.Deep.Slices
import Derived.Deep.Matrix
import Derived.ChangeSame
import Derived.Lib.SmallJoins
namespace Go.Proofs.Ytmkinnkndjmpbaa.sumOf
open Go.ChangeShapes Go.WideShapes Go.ChangeAt Go.RowKit Go.OpenShut Go.Deep Go.Joins Go.Proofs.Ytmkinnkndjmpbaa.Aid
open Go.Proofs.Ytmkinnkndjmpbaa
theorem own : ownKnob Try.prog.godebug = none := by kernel_rfl
theorem laidOut : laidOutB Try.prog = true := by kernel_rfl
theorem one_le {H : Type} (d : DataW H) : 1 ≤ Rows.uptoBulk d := by
  cases d with
  | lit l => cases l <;> simp [Rows.uptoBulk]
  | nil => simp [Rows.uptoBulk]
  | ptr d => simp [Rows.uptoBulk]
  | slice elems spare => simp [Rows.uptoBulk]
  | agg parts => simp [Rows.uptoBulk]
  | iface t d => simp [Rows.uptoBulk]
  | map entries => simp [Rows.uptoBulk]
  | held h => simp [Rows.uptoBulk]
theorem length_le {H : Type} (l : List (DataW H)) : l.length ≤ Rows.uptoBulkAll l := by
  induction l with
  | nil => simp [Rows.uptoBulkAll]
  | cons x r ih => have := one_le x; simp only [Rows.uptoBulkAll, List.length_cons]; omega
theorem part_len : ∀ (rows : List Sum.Row) (r : Sum.Row), r ∈ rows → r.bytes.length ≤ (Sum.flatB rows).length
  | x :: t, r, h => by
    simp only [Sum.flatB, List.flatMap_cons, List.length_append]
    rcases List.mem_cons.1 h with rfl | h
    · omega
    · have := part_len t r h
      simp only [Sum.flatB] at this
      omega
def rowAt (A : Nat → Option Addr) (L C : Nat → Nat) (Z : Nat → List Int) (r : Nat) : Sum.Row := ⟨A r, C r, (Z r).take (L r)⟩
theorem row_le {H : Type} (A : Nat → Option Addr) (L C : Nat → Nat) (Z : Nat → List Int) (r : Nat) (h : A r = none → (Z r).length = 0) :
    (rowAt A L C Z r).bytes.length ≤ Rows.uptoBulk (intRow (H := H) .u8 (A r) (L r) (Z r)) := by
  unfold rowAt intRow
  cases hA : A r with
  | none => have := h hA; simp only [List.length_take]; omega
  | some ad =>
    have h1 := length_le (H := H) (lits .u8 ((Z r).take (L r)))
    simp only [lits, List.length_map] at h1
    simp only [Rows.uptoBulk, lits]
    omega
theorem rows_le {H : Type} (A : Nat → Option Addr) (L C : Nat → Nat) (Z : Nat → List Int) : ∀ (is : List Nat), (∀ r ∈ is, A r = none → (Z r).length = 0) →
    (Sum.flatB (is.map (rowAt A L C Z))).length ≤ Rows.uptoBulkAll (is.map fun r => intRow (H := H) .u8 (A r) (L r) (Z r))
  | [], _ => by simp [Sum.flatB]
  | r :: t, h => by
    have h1 := row_le (H := H) A L C Z r (h r (by simp))
    have h2 := rows_le (H := H) A L C Z t (fun x hx => h x (by simp [hx]))
    simp only [Sum.flatB, List.map_cons, List.flatMap_cons, List.length_append, Rows.uptoBulkAll] at *
    omega
theorem contract (H : Type) (enc : TypeId × Value → H) (W : World) (base : Nat) (args : Array Value) (ds gs : List (DataW H)) (before : List MemPlace)
    (hval0 : ∀ (j : Nat) t v, Try.f9.params[j]? = some t → args[j]? = some v → Value.okWide Try.prog W .any base t v)
    (hW : DataW.Whole enc Try.prog Try.f9.params.toList Rows.sumOfSpec.vars false W args.toList ds gs before) (hk : Rows.uptoSmall H (ds ++ gs) = true) :
    Calls Try.prog 9 args W fun e W' => ∃ v, e = .returned v ∧ Rows.sumOfSpec.post enc Try.prog Try.f9 false true false false W args v W' := by
  have hval := hval0
  have hW' := hW
  obtain ⟨p, q, hA0, hV, rfl, hfz, hnd⟩ := hW
  have hA : DataW.TrodAll enc Try.prog W 0 (fun _ => true) true Try.f9.params.toList args.toList ds p := hA0
  rw [Try.params9] at hA hval
  obtain ⟨v0, vs0, d0, ds0, p0, q0, hargs, rfl, rfl, h0, r0⟩ := trodAll_cons hA
  obtain ⟨v1, vs1, d1, ds1, p1, q1, rfl, rfl, rfl, h1, r1⟩ := trodAll_cons r0
  obtain ⟨v2, vs2, d2, ds2, p2, q2, rfl, rfl, rfl, h2, r2⟩ := trodAll_cons r1
  obtain ⟨rfl, rfl, rfl⟩ := trodAll_nil r2
  obtain rfl : args = #[v0, v1, v2] := by cases args; simp_all
  obtain ⟨rfl, rfl⟩ := trodVars_none hV
  obtain ⟨a0, len0, cap0, rfl⟩ := okWide_slice Try.underlying38 (hval 0 38 v0 rfl rfl)
  have k0 := h0
  have lt0 : ∀ x ∈ p0, x.block < W.heap.size := by obtain ⟨m, hm⟩ := k0; exact DataW.trod_lt m _ _ _ hm
  obtain ⟨fuel0, hf0⟩ := h0
  obtain ⟨a1, rfl, rfl, rfl, w1⟩ := open_int Try.underlying39 (hval 1 39 v1 rfl rfl) h1
  have b1 := bounds_u16 w1
  obtain ⟨a2, rfl, rfl, rfl, w2⟩ := open_int Try.underlying39 (hval 2 39 v2 rfl rfl) h2
  have b2 := bounds_u16 w2
  have hbulk : Rows.uptoBulk d0 ≤ 1048576 := by
    have h := of_decide_eq_true hk
    simp only [List.append_nil, Rows.uptoBulkAll] at h
    omega
  obtain ⟨rows, e0, hL, hN, hT, hrl⟩ : ∃ rows : List Sum.Row, rows.length = len0 ∧ Sum.Lists W a0 rows ∧ (∀ r ∈ rows, r.ad = none → r.cap = 0) ∧ (Sum.flatB rows).length ≤ 1048576 ∧ rows.length ≤ 140737488351300 := by
    rcases open_int_rows Try.underlying38 Try.underlying40 Try.underlying5 (by kernel_rfl) (by kernel_rfl) hf0 with ⟨hcs, _⟩ | ⟨x, l, c, A, L, C, Z, hcs, _, hl, hm, hx, hcell⟩
    · simp [Value.cells] at hcs
      obtain ⟨rfl, rfl, rfl⟩ := hcs
      exact ⟨[], rfl, ⟨by intro i x h; simp at h, by simp⟩, by simp, by simp [Sum.flatB], by simp⟩
    · simp [Value.cells] at hcs
      obtain ⟨rfl, rfl, rfl⟩ := hcs
      obtain ⟨hx1, _⟩ := Prod.mk.inj hx
      subst hx1
      have hle : (Sum.flatB ((List.range len0).map (rowAt A L C Z))).length ≤ 1048576 := by
        have h := rows_le (H := H) A L C Z (List.range len0) (fun r hr hn => by
          obtain ⟨_, _, _, hz, _, hc, _⟩ := hcell r (by have := List.mem_range.1 hr; omega)
          rw [hz]; exact hc hn)
        simp only [Rows.uptoBulk] at hbulk
        omega
      refine ⟨(List.range len0).map (rowAt A L C Z), by simp, ⟨?_, ?_⟩, ?_, hle, ?_⟩
      · intro i r hi
        have hil : i < len0 := by have := (List.getElem?_eq_some_iff.1 hi).1; simpa using this
        have hr : r = rowAt A L C Z i := by
          rw [List.getElem?_map, List.getElem?_range hil] at hi
          simpa using hi.symm
        subst hr
        obtain ⟨hc, hlc, _, hz, _⟩ := hcell i (by omega)
        have hlb := World.block_lt_of_cell? W _ hc
        refine ⟨x, rfl, by simpa [Aid.add_block] using hlb, fun j v hv => ?_⟩
        match j, hv with
        | 0, hv =>
          simp only [Sum.encRow, rowAt, List.length_take, hz] at hv
          rw [Nat.min_eq_left hlc] at hv
          simp at hv
          subst hv
          simpa using hc
        | j + 1, hv => simp [Sum.encRow] at hv
      · intro r hr
        obtain ⟨i, hi, rfl⟩ := List.mem_map.1 hr
        have hil := List.mem_range.1 hi
        obtain ⟨_, hlc, _, hz, hwz, hcn, hca⟩ := hcell i (by omega)
        refine ⟨?_, ?_, fun y hy => bounds_u8 (hwz y (List.mem_of_mem_take hy))⟩
        · intro j y hy
          simp only [rowAt] at hy ⊢
          have hjl : j < L i := by have := (List.getElem?_eq_some_iff.1 hy).1; simp at this; omega
          have hjz : j < (Z i).length := by omega
          cases hA : A i with
          | none => have := hcn hA; omega
          | some ad =>
            obtain ⟨_, hc⟩ := hca ad hA
            have hlb := World.block_lt_of_cell? W _ (hc 0 (by omega))
            refine ⟨ad, rfl, by simpa [Aid.add_block] using hlb, fun m v hv => ?_⟩
            match m, hv with
            | 0, hv =>
              simp [Sum.encB] at hv
              subst hv
              rw [List.getElem?_take_of_lt hjl] at hy
              have := hc j (by omega)
              simpa [List.getD_eq_getElem?_getD, hy] using this
            | m + 1, hv => simp [Sum.encB] at hv
        · have h1 : (rowAt A L C Z i).bytes.length ≤ (Sum.flatB ((List.range len0).map (rowAt A L C Z))).length := by
            exact part_len _ _ (List.mem_map.2 ⟨i, hi, rfl⟩)
          omega
      · intro r hr hn
        obtain ⟨i, hi, rfl⟩ := List.mem_map.1 hr
        obtain ⟨_, _, _, _, _, hcn, _⟩ := hcell i (by have := List.mem_range.1 hi; omega)
        exact hcn hn
      · have h := length_le (H := H) ((List.range len0).map fun r => intRow .u8 (A r) (L r) (Z r))
        simp only [Rows.uptoBulk, List.length_map, List.length_range] at hbulk h ⊢
        omega
  subst e0
  refine (Sum.sumof_walk a0 cap0 rows a1 a2 W hL hN hT hrl b1 b2).mono fun e W' ⟨he, bel⟩ => ?_
  subst he
  exact ⟨_, rfl, _, _, _, [], _, [], hW', trodAll_mk1 (shut_bool Try.underlying4 _), (trodAll_cons_mk (Below.trod laidOut (by kernel_rfl) (of_decide_eq_true (by kernel_rfl)) k0 bel lt0) (trodAll_cons_mk (shut_int Try.underlying39 w1) (trodAll_cons_mk (shut_int Try.underlying39 w2) trodAll_mk0))), rfl, bel.frame _, fun h => by cases h⟩
set_option maxRecDepth 100000 in
theorem lifted (os : Os) (started : os.Started) (H : Type) (enc : TypeId × Value → H) (F : Stop.Interp) :
    ReturnsInHanded {} Try.checked os 9 .any ((Rows.OpenSpec.upto Rows.sumOfSpec).pre6 enc Try.prog Try.f9 Rows.sumOfUptoRow.domain false) (((Rows.OpenSpec.upto Rows.sumOfSpec).at F).post enc Try.prog Try.f9 false true false false) := by
  refine returnsInHanded_of_cond (C := Try.checked) (s := Rows.OpenSpec.upto Rows.sumOfSpec) (k := Rows.uptoSmall) rfl own started (by kernel_rfl) Try.func9
    (OpenSpec.witness (enc := enc) (C := Try.checked) (s := Rows.OpenSpec.upto Rows.sumOfSpec) (k := Rows.uptoSmall) rfl false ⟨#[], #[.slice none 0 0, .int .u16 0, .int .u16 0], []⟩ 8 (by kernel_rfl) (by kernel_rfl) (by kernel_rfl)
      (x := ([.nil, .lit (.int .u16 0), .lit (.int .u16 0)], [], [])) (by kernel_rfl) rfl (by kernel_rfl)) ?_
  intro W base args ds gs before hval hW _ hk _
  exact contract H enc W base args ds gs before hval hW hk
theorem over : Rows.sumOfUptoRow.holds Try.pinned (Rows.OpenSpec.upto Rows.sumOfSpec) :=
  OpenClaim.holds_of_cond 9 Try.f9 rfl rfl rfl rfl rfl rfl rfl ⟨rfl, rfl, rfl, rfl, rfl⟩ rfl rfl rfl rfl rfl (by kernel_rfl) Try.func9 (by kernel_rfl)
    (of_decide_eq_true (by kernel_rfl)) (by unfold Func.isWrapper; first | (rw [if_pos (by decide +kernel)]; kernel_rfl) | (rw [if_neg (by decide +kernel)]; exact ⟨rfl, rfl⟩))
    (fun os started H enc _ F => lifted os started H enc F)
theorem proved : Rows.SumOfUptoSaid := over
end Go.Proofs.Ytmkinnkndjmpbaa.sumOf
namespace Go.Proofs.Ytmkinnkndjmpbaa
theorem sumOfUpto_holds : Rows.SumOfUptoSaid := sumOf.proved
end Go.Proofs.Ytmkinnkndjmpbaa
