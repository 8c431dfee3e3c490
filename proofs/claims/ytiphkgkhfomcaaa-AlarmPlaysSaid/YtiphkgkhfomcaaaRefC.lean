/- Chapter 13 (alarm): the document's own: New. -/
import Derived.Test.YtiphkgkhfomcaaaRefB
set_option linter.unusedSimpArgs false
set_option linter.unusedVariables false
attribute [local go_sem ↓] Go.wp_at_zero Go.wp_at_succ
namespace Go.Proofs.Ytiphkgkhfomcaaa.Alarm
open Go.BigFrame Go.RowKit Go.OpenShut Go.Proofs.Ytiphkgkhfomcaaa.Aid Go.Proofs.Ytiphkgkhfomcaaa.DMap Go.Proofs.Ytiphkgkhfomcaaa.Heap
structure NewS (w wr : World) (H : Nat) (v : Value) (k : Nat) : Prop where
  x : Blk wr H 44 #[.int .i64 0, nilS]
  y : Blk wr (H + 1) 44 #[.int .i64 0, v]
  row : RowOf 3 1 encI wr v (List.replicate k (-1))
  bel : Below w.heap.size w wr
  far : w.heap.size ≤ H
  own : ∀ j, v.ownBlock = some j → w.heap.size ≤ j ∧ j ≠ H ∧ j ≠ H + 1
theorem news_next {w wr w3 : World} {H k : Nat} {v v' : Value} {o : Obj} (h : NewS w wr H v k) (ha : App (wr.alloc o) w3 v v') (hr : RowOf 3 1 encI w3 v' (List.replicate k (-1) ++ [-1])) :
    Blk w3 (H + 1) 44 #[.int .i64 0, v] ∧ NewS w (w3.setCell ⟨H + 1, 1, Option.none⟩ v') H v' (k + 1) := by
  have hs : (wr.alloc o).heap.size = wr.heap.size + 1 := World.size_alloc _ _
  have l0 := h.x.lt
  have l1 := h.y.lt
  have lb := h.bel.size
  have hsz := ha.size
  have keep : ∀ j, j < wr.heap.size → v.ownBlock ≠ some j → w3.heap[j]? = wr.heap[j]? := fun j h1 h2 => (ha.block j (by omega) h2).trans (Below.heap_alloc wr o j h1)
  have own' : ∀ j, v'.ownBlock = some j → w.heap.size ≤ j ∧ j ≠ H ∧ j ≠ H + 1 := fun j hj => by
    rcases ha.own j hj with e | e
    · exact h.own j e
    · omega
  have X3 : Blk w3 H 44 #[.int .i64 0, nilS] := (keep H l0 (fun e => (h.own _ e).2.1 rfl)).trans h.x
  have Y3 : Blk w3 (H + 1) 44 #[.int .i64 0, v] := (keep (H + 1) l1 (fun e => (h.own _ e).2.2 rfl)).trans h.y
  have far := h.far
  refine ⟨Y3, X3.far (p := ⟨H + 1, 1, Option.none⟩) (show H ≠ H + 1 by omega) _, (Y3.set_ 1 v').eq (by simp), ?_, ?_, h.far, own'⟩
  · have e : List.replicate (k + 1) (-1 : Int) = List.replicate k (-1) ++ [-1] := by rw [List.replicate_succ']
    rw [e]
    exact hr.same (fun j hj => Below.heap_setCell _ _ _ j (own' j hj).2.2)
  · exact Below.setCell ⟨ha.os.trans h.bel.os, ha.tape.trans h.bel.tape, ha.output.trans h.bel.output, by omega, fun j hj => (keep j (by omega) (fun e => by have := (h.own j e).1; omega)).trans (h.bel.block j hj)⟩ (p := ⟨H + 1, 1, Option.none⟩) (by show w.heap.size ≤ H + 1; omega) _
set_option maxRecDepth 100000 in
set_option maxHeartbeats 2000000 in
theorem rnew_calls (n : Nat) (w : World) (hn : n ≤ 1000) : Calls Try.prog 20 #[.int .i64 n] w (fun e w' => ∃ v', e = .returned (refV 0 v') ∧ RefNew w 0 (List.replicate n (-1)) v' w') := by
  obtain ⟨i0, hi, hz0, hz1, hz2⟩ := info_parts info3
  obtain ⟨d1, d2, d3⟩ := doors w 0 nilS
  have S0 := Lib.hid (show NewS w ((w.alloc (.cells #[.int .i64 0, nilS] 44)).alloc (.cells #[.int .i64 0, nilS] 44)) w.heap.size nilS 0 from ⟨d2, d3, .inl ⟨rfl, rfl⟩, d1, Nat.le_refl _, fun j hj => by simp [Value.ownBlock] at hj⟩)
  clear d1 d2 d3
  go_enter Try.func20, Try.ntmps20
  go_upto_region 2 with fail
  revert S0
  generalize (w.alloc (.cells #[.int .i64 0, nilS] 44)).alloc (.cells #[.int .i64 0, nilS] 44) = w2
  intro S0
  generalize hH : w.heap.size = H at *
  have HH := Lib.hid hH
  clear hH
  go_wp2
  go_loopw [4] (fun iv wr => ∃ (k : Nat) (v : Value), iv = .int .i64 k ∧ k ≤ n ∧ Hid (NewS w wr H v k)) (fun iv _ => n - (intOf iv).toNat)
  case atStart => exact ⟨0, _, rfl, by omega, S0⟩
  case round =>
    obtain ⟨k, v, rfl, hk, hS⟩ := hrel
    clear S0
    obtain ⟨Av, nv, cv, rfl⟩ := hS.out.row.some_slice
    have y1 := hS.out.y.cell 1
    simp at y1
    by_cases hkn : k < n
    · have hk1 : (k : Int) < (n : Int) := by omega
      go_wp2_with (at_builtin; refine wpList_append_row (by rfl) _ _ 33 (by rfl) i0 _ 8 Try.underlying33 hi hz0 hz1 hz2 (by decide) (by decide) encI_len encI_one (.slice Av nv cv) (List.replicate k (-1)) (by rfl) (hS.out.row.same fun j hj => Below.heap_alloc wr _ j (hS.out.row.lt j hj)) ⟨wr.heap.size, 0, Option.none⟩ 1 1 [(-1 : Int)] rfl (by rfl) (src_int (heap_alloc_new _ _)) ?k2 ?k3 ?k4)
      case k2 => simp; unfold maxLen; omega
      case k3 => simp; omega
      case k4 =>
        intro v' w3 hr ha
        obtain ⟨Y3, N3⟩ := news_next hS.out ha hr
        obtain ⟨A2, n2, c2, rfl⟩ := hr.some_slice
        have N3 := Lib.hid N3
        have u1 := Y3.cell 1
        have uf := Y3.frozen
        simp at u1
        clear Y3 hr ha y1
        go_wp2
        go_roundw
        case rel => exact ⟨k + 1, _, by go_num, by omega, N3⟩
        case measure => simp [intOf]; omega
    · obtain rfl : k = n := by omega
      have hk1 : ¬ ((k : Int) < (k : Int)) := by omega
      have y0 := hS.out.y.cell 0
      have x0 := hS.out.x.cell 0
      have x1 := hS.out.x.cell 1
      have xf := hS.out.x.frozen
      simp at y0 x0 x1
      obtain ⟨o1, o2, o4⟩ := out_door (now := 0) (v := .slice Av nv cv) hS.out.far hS.out.bel hS.out.x
      have O := Lib.hid (show RefNew w 0 (List.replicate k (-1)) (.slice Av nv cv) _ from ⟨hS.out.row.same (fun j hj => o4 j (hS.out.own j hj).2.1), o2, fun j hj => (hS.out.own j hj).1⟩)
      have t0 := o1.cell 0
      have t1 := o1.cell 1
      clear o1 o2 o4
      go_wp2
      exact bodyPost_ret (v := refV 0 (.slice Av nv cv)) (by simp at t0 t1; simp [results, Try.results20, go_sem, t0, t1]; done) rfl ⟨_, rfl, O.out⟩
end Go.Proofs.Ytiphkgkhfomcaaa.Alarm
