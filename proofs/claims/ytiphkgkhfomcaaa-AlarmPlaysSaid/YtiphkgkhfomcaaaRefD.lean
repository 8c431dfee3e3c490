/- Chapter 13 (alarm): the document's own: Next, Len. -/
import Derived.Test.YtiphkgkhfomcaaaRefC
import Derived.BigQuiet
set_option linter.unusedSimpArgs false
set_option linter.unusedVariables false
attribute [local go_sem ↓] Go.wp_at_zero Go.wp_at_succ
namespace Go.Proofs.Ytiphkgkhfomcaaa.Alarm
open Go.BigFrame Go.RowKit Go.OpenShut Go.Proofs.Ytiphkgkhfomcaaa.Aid Go.Proofs.Ytiphkgkhfomcaaa.DMap Go.Proofs.Ytiphkgkhfomcaaa.Heap
/-- How many of the first k are set. -/
def cntTo (A : List Int) : Nat → Nat
  | 0 => 0
  | k + 1 => cntTo A k + (if 0 ≤ at_ A k then 1 else 0)
theorem cntTo_take (A : List Int) : ∀ k, k ≤ A.length → cntTo A k = cnt (A.take k)
  | 0, _ => by simp [cntTo, cnt]
  | k + 1, h => by
    have e : A.take (k + 1) = A.take k ++ [at_ A k] := by
      rw [List.take_add_one, Heap.get_at (by omega)]
      rfl
    rw [e]
    simp only [cntTo, cnt, List.countP_append]
    have := cntTo_take A k (by omega)
    unfold cnt at this
    rw [this]
    by_cases hx : 0 ≤ at_ A k
    · rw [if_pos hx]
      generalize at_ A k = a at hx ⊢
      simp [isSet, hx]
    · rw [if_neg hx]
      generalize at_ A k = a at hx ⊢
      simp [isSet]
      omega
theorem cntTo_all (A : List Int) : cntTo A A.length = cnt A := by rw [cntTo_take A A.length (Nat.le_refl _), List.take_length]
theorem cntTo_le (A : List Int) : ∀ k, cntTo A k ≤ k
  | 0 => Nat.le_refl _
  | k + 1 => by
    have := cntTo_le A k
    simp only [cntTo]
    split <;> omega
set_option maxRecDepth 100000 in
set_option maxHeartbeats 2000000 in
theorem rlen13_calls (now : Int) (v : Value) (A : List Int) (w : World) (h : RowOf 3 1 encI w v A) (hl : A.length ≤ 64) : Calls Try.prog 49 #[refV now v] w (Gives w (.int .i64 (cnt A))) := by
  have hb : Below w.heap.size w (w.alloc (.cells #[.int .i64 now, v] 44)) := (Below.refl _ w).alloc (Nat.le_refl _) _
  have hx := Blk.new w 44 #[.int .i64 now, v]
  obtain ⟨Av, cv, rfl, _⟩ := h.slice
  have S0 := Lib.hid (And.intro hb (And.intro hx (h.below hb)))
  have HE := Lib.hid (cntTo_all A)
  clear hb hx h
  go_enter Try.func49, Try.ntmps49
  go_upto_region 2 with fail
  revert S0
  generalize w.alloc (.cells #[.int .i64 now, .slice Av A.length cv] 44) = w1
  intro S0
  generalize hH : w.heap.size = H at *
  have HH := Lib.hid hH
  clear hH
  have x1 := S0.out.2.1.cell 1
  simp at x1
  go_wp2
  go_loopw [3, 4] (fun nv iv wr => ∃ k : Nat, nv = .int .i64 (cntTo A k) ∧ iv = .int .i64 k ∧ k ≤ A.length ∧ wr = w1) (fun _ iv _ => A.length - (intOf iv).toNat)
  case atStart => exact ⟨0, rfl, rfl, by omega, rfl⟩
  case round =>
    obtain ⟨k, rfl, rfl, hk, rfl⟩ := hrel
    by_cases hkl : k < A.length
    · obtain ⟨b, rfl⟩ := row3_some S0.out.2.2 (by omega)
      have y0 := row3_cell S0.out.2.2 k hkl
      have q0 : (0 : Int) ≤ (k : Int) := by omega
      have q1 : (k : Int) < (A.length : Int) := by omega
      have hc := cntTo_le A k
      by_cases hs : 0 ≤ at_ A k
      · have e : cntTo A (k + 1) = cntTo A k + 1 := by simp only [cntTo]; rw [if_pos hs]
        generalize at_ A k = a at *
        generalize cntTo A k = z at *
        go_wp2
        go_roundw
        case rel => exact ⟨k + 1, by rw [e]; go_num, by go_num, by omega, by first | trivial | rfl⟩
        case measure => simp [intOf]; omega
      · have e : cntTo A (k + 1) = cntTo A k := by simp only [cntTo]; rw [if_neg hs]; rfl
        generalize at_ A k = a at *
        generalize cntTo A k = z at *
        go_wp2
        go_roundw
        case rel => exact ⟨k + 1, by rw [e], by go_num, by omega, by first | trivial | rfl⟩
        case measure => simp [intOf]; omega
    · obtain rfl : k = A.length := by omega
      rw [HE.out]
      have hc := cnt_le A
      generalize cnt A = z at *
      go_wp2
      go_ret
      exact ⟨rfl, by have := S0.out.1; rw [← HH.out] at this; exact this⟩
set_option maxRecDepth 100000 in
set_option maxHeartbeats 4000000 in
theorem rnext_calls (now : Int) (v : Value) (A : List Int) (w : World) (h : RowOf 3 1 encI w v A) (hl : A.length ≤ 64) : Calls Try.prog 47 #[refV now v] w (Gives w (.int .i64 (best A))) := by
  have hb : Below w.heap.size w (w.alloc (.cells #[.int .i64 now, v] 44)) := (Below.refl _ w).alloc (Nat.le_refl _) _
  have hx := Blk.new w 44 #[.int .i64 now, v]
  obtain ⟨Av, cv, rfl, _⟩ := h.slice
  have S0 := Lib.hid (And.intro hb (And.intro hx (h.below hb)))
  clear hb hx h
  go_enter Try.func47, Try.ntmps47
  go_upto_region 2 with fail
  revert S0
  generalize w.alloc (.cells #[.int .i64 now, .slice Av A.length cv] 44) = w1
  intro S0
  generalize hH : w.heap.size = H at *
  have HH := Lib.hid hH
  clear hH
  go_wp2
  go_loopw [3, 4] (fun bv iv wr => ∃ k : Nat, bv = .int .i64 (bestTo A k) ∧ iv = .int .i64 k ∧ k ≤ A.length ∧ Hid (Below w1.heap.size w1 wr)) (fun _ iv _ => A.length - (intOf iv).toNat)
  case atStart => exact ⟨0, rfl, rfl, by omega, Lib.hid (Below.refl _ _)⟩
  case round =>
    obtain ⟨k, rfl, rfl, hk, hW⟩ := hrel
    have X := S0.out.2.1.below hW.out S0.out.2.1.lt
    have x1 := X.cell 1
    simp at x1
    by_cases hkl : k < A.length
    · obtain ⟨b, rfl⟩ := row3_some S0.out.2.2 (by omega)
      have R := S0.out.2.2.below hW.out
      have y0 := row3_cell R k hkl
      have q0 : (0 : Int) ≤ (k : Int) := by omega
      have q1 : (k : Int) < (A.length : Int) := by omega
      have fin := Lib.hid (fun nq => below_drewN hW.out nq)
      by_cases hs : 0 ≤ at_ A k
      · rcases bestTo_spec A k with ⟨hb1, _⟩ | ⟨c, hb1, hc1, _⟩
        · have e : bestTo A (k + 1) = k := by simp only [bestTo]; rw [if_pos ⟨hs, .inl (by omega)⟩]
          rw [hb1]
          have s1 : decide (0 ≤ at_ A k) = true := decide_eq_true hs
          generalize at_ A k = a at *
          have HE := Lib.hid e
          clear e hb1 R X
          go_wp2
          go_quiet (fail)
          go_wp2
          go_roundw
          case rel => exact ⟨k + 1, by rw [HE.out], by go_num, by omega, Lib.hid (fin.out _)⟩
          case measure => simp [intOf]; omega
        · rw [hb1]
          have z0 := row3_cell R c (by omega)
          have q2 : (0 : Int) ≤ (c : Int) := by omega
          have q3 : (c : Int) < (A.length : Int) := by omega
          have q4 : ¬ ((c : Int) < 0) := by omega
          have q4b : decide ((c : Int) < 0) = false := decide_eq_false q4
          have s1 : decide (0 ≤ at_ A k) = true := decide_eq_true hs
          by_cases hlt : at_ A k < at_ A c
          · have e : bestTo A (k + 1) = k := by simp only [bestTo]; rw [if_pos ⟨hs, .inr (by rw [hb1]; exact hlt)⟩]
            have s2 : decide (at_ A k < at_ A c) = true := decide_eq_true hlt
            generalize at_ A k = a at *
            generalize at_ A c = a2 at *
            have HE := Lib.hid e
            clear e hb1 R X
            go_wp2
            go_quiet (fail)
            go_wp2
            go_roundw
            case rel => exact ⟨k + 1, by rw [HE.out], by go_num, by omega, Lib.hid (fin.out _)⟩
            case measure => simp [intOf]; omega
          · have e : bestTo A (k + 1) = c := by
              simp only [bestTo]
              rw [if_neg (fun h => h.2.elim (fun h => by omega) (fun h => by rw [hb1] at h; exact hlt h))]
              exact hb1
            have s2 : decide (at_ A k < at_ A c) = false := decide_eq_false hlt
            generalize at_ A k = a at *
            generalize at_ A c = a2 at *
            have HE := Lib.hid e
            clear e hb1 R X
            go_wp2
            go_quiet (fail)
            go_wp2
            go_roundw
            case rel => exact ⟨k + 1, by rw [HE.out], by go_num, by omega, Lib.hid (fin.out _)⟩
            case measure => simp [intOf]; omega
      · have e : bestTo A (k + 1) = bestTo A k := by simp only [bestTo]; rw [if_neg (fun h => hs h.1)]
        have s1 : decide (0 ≤ at_ A k) = false := decide_eq_false hs
        generalize at_ A k = a at *
        generalize bestTo A k = z at *
        have HE := Lib.hid e
        clear e R X
        go_wp2
        go_quiet (fail)
        go_wp2
        go_roundw
        case rel => exact ⟨k + 1, by rw [HE.out], by go_num, by omega, Lib.hid (fin.out _)⟩
        case measure => simp [intOf]; omega
    · obtain rfl : k = A.length := by omega
      have O := Lib.hid (below_then S0.out.1 (by have := S0.out.1.size; have := HH.out; omega) hW.out)
      generalize hbz : bestTo A A.length = z at *
      have HZ := Lib.hid (show best A = z from hbz)
      clear hbz
      go_wp2
      go_ret
      exact ⟨by first | rfl | (rw [HZ.out]; done) | (have hz := HZ.out; subst hz; rfl) | (simp [HZ.out]), by have := O.out; rw [← HH.out] at this; exact this⟩
end Go.Proofs.Ytiphkgkhfomcaaa.Alarm
