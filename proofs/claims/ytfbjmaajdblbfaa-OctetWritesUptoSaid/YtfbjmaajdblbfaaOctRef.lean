/- Chapter 02 (octet): the document's numbers and their bytes. -/
import Derived.Test.YtfbjmaajdblbfaaOctBack
set_option linter.unusedSimpArgs false
set_option linter.unusedVariables false
attribute [local go_sem ↓] Go.wp_at_zero Go.wp_at_succ
namespace Go.Proofs.Ytfbjmaajdblbfaa.Oct
open Go.RowKit Go.OpenShut Go.Proofs.Ytfbjmaajdblbfaa.Aid
theorem dig_div (n : Int) (i : Nat) : dig n i = n / 256 ^ i % 256 := rfl
def firsts (n : Int) (s k : Nat) : List Int := (List.range k).map fun t => dig n (s - 1 - t)
theorem firsts_step (n : Int) (s k : Nat) : firsts n s (k + 1) = firsts n s k ++ [dig n (s - 1 - k)] := by
  unfold firsts
  rw [List.range_succ, List.map_append]
  rfl
theorem firsts_all (n : Int) (s : Nat) : firsts n s s = bes n s 0 := rfl
/-- A list of the call's own, growing. -/
structure Grows (w W : World) (v : Value) (xs : List Int) : Prop where
  row : RowOf 5 1 encB W v xs
  bel : Below w.heap.size w W
  own : ∀ k, v.ownBlock = some k → w.heap.size ≤ k
theorem Grows.app {w W W2 W' : World} {v v' : Value} {xs ys : List Int} (h : Grows w W v xs) (hb : Below W.heap.size W W2) (hr : RowOf 5 1 encB W' v' (xs ++ ys)) (ha : App W2 W' v v') : Grows w W' v' (xs ++ ys) :=
  ⟨hr, below_app (below_then h.bel h.bel.size hb) ha h.own, fun k hk => by
    have := h.bel.size
    have := hb.size
    rcases ha.own k hk with h1 | h1
    · exact h.own k h1
    · omega⟩
set_option maxRecDepth 100000 in
set_option maxHeartbeats 8000000 in
theorem refnumber_calls (n : Int) (s : Nat) (w : World) (hs : s ≤ 4) (n0 : 0 ≤ n) (n1 : n ≤ 4294967295) : Calls Try.prog 36 #[.int .u32 n, .int .i64 s] w (Fresh w (bes n s 0)) := by
  obtain ⟨i0, hi, hz0, hz1, hz2⟩ := info_parts info5
  have G0 : Hid (Grows w w (.slice none 0 0) (firsts n s 0)) := Lib.hid ⟨row_nil w, Below.refl _ _, by simp [Value.ownBlock]⟩
  go_enter Try.func36, Try.ntmps36
  go_wp2
  go_loopw [5, 6] (fun o i wr => ∃ k : Nat, k ≤ s ∧ i = .int .i64 k ∧ Hid (Grows w wr o (firsts n s k))) (fun _ i _ => s - (intOf i).toNat)
  case atStart => exact ⟨0, by omega, rfl, G0⟩
  case round =>
    obtain ⟨k, hk, rfl, hG⟩ := hrel
    clear G0
    rename_i o _
    by_cases hlt : k < s
    · have q0 : (0 : Int) ≤ (k : Int) := by omega
      have q1 : (k : Int) < (s : Int) := by omega
      obtain ⟨A, ln, cap, rfl⟩ := hG.out.row.some_slice
      go_wp2
      obtain ⟨wo, hwo⟩ : ∃ wo : World, wo = wr := ⟨_, rfl⟩
      rw [← hwo] at hG
      rw [← hwo]
      clear hwo
      go_loop [7, 8] (fun d j => ∃ m : Nat, k + 1 ≤ m ∧ m ≤ s ∧ j = .int .i64 m ∧ d = .int .u32 ((256 ^ (m - (k + 1)) : Nat) : Int)) (fun _ j => s - (intOf j).toNat)
      case atStart => exact ⟨k + 1, by omega, by omega, by go_num, by simp⟩
      case round =>
        obtain ⟨m, hm1, hm2, rfl, rfl⟩ := hrel
        by_cases hms : m < s
        · have q2 : (m : Int) < (s : Int) := by omega
          have hp : 256 ^ (m - (k + 1)) ≤ 65536 := by
            have : m - (k + 1) = 0 ∨ m - (k + 1) = 1 ∨ m - (k + 1) = 2 := by omega
            rcases this with h | h | h <;> rw [h] <;> decide
          have he : 256 ^ (m + 1 - (k + 1)) = 256 ^ (m - (k + 1)) * 256 := by rw [show m + 1 - (k + 1) = (m - (k + 1)) + 1 by omega, Nat.pow_succ]
          have HE := Lib.hid he
          clear he
          generalize 256 ^ (m - (k + 1)) = p at *
          have p0 : (0 : Int) ≤ (p : Int) := by omega
          have p1 : (p : Int) ≤ 65536 := by omega
          go_wp2
          go_round
          case rel => exact ⟨m + 1, by omega, by omega, by go_num, by rw [HE.out]; first | rfl | go_num | simp⟩
          case measure => simp [intOf]; omega
        · obtain rfl : m = s := by omega
          have hp : 256 ^ (m - (k + 1)) ≤ 16777216 := by
            have : m - (k + 1) = 0 ∨ m - (k + 1) = 1 ∨ m - (k + 1) = 2 ∨ m - (k + 1) = 3 := by omega
            rcases this with h | h | h | h <;> rw [h] <;> decide
          have hp0 : 0 < 256 ^ (m - (k + 1)) := Nat.pow_pos (by decide)
          have hd : firsts n m (k + 1) = firsts n m k ++ [n / ((256 ^ (m - (k + 1)) : Nat) : Int) % 256] := by
            rw [firsts_step, dig_div, show m - 1 - k = m - (k + 1) by omega]
            congr 3
          have HD := Lib.hid hd
          have hf : (firsts n m k).length ≤ 4 := by unfold firsts; simp; omega
          have HFL := Lib.hid hf
          clear hd hf
          generalize 256 ^ (m - (k + 1)) = p at *
          have p0 : (0 : Int) < (p : Int) := by omega
          have p1 : (p : Int) ≤ 16777216 := by omega
          have p2 : ¬ (p : Int) = 0 := by omega
          have p3 : ((p : Int) == 0) = false := by simpa using p2
          have hq0 : 0 ≤ n / (p : Int) := Int.ediv_nonneg n0 (by omega)
          have hq1 : n / (p : Int) ≤ n := Int.ediv_le_self _ n0
          have q5 : ¬ (m : Int) < (m : Int) := by omega
          go_wp2_with (at_builtin; refine wpList_append_row (by rfl) _ _ 43 (by rfl) i0 _ 1 Try.underlying43 hi hz0 hz1 hz2 (by decide) (by decide) encB_len encB_one (.slice A ln cap) (firsts n m k) (by rfl) (hG.out.row.below ((Below.refl _ wo).alloc (Nat.le_refl _) _)) _ 1 _ [_] rfl (by rfl) (src_byte (heap_alloc_new _ _)) ?k2 ?k3 ?k4)
          case k2 => unfold maxLen; have := HFL.out; simp; omega
          case k3 => have := HFL.out; simp; omega
          case k4 =>
            intro v' w' hr ha
            have hr : RowOf 5 1 encB w' v' (firsts n m k ++ [n / (p : Int) % 256]) := hr
            have HX : Hid (Grows w w' v' (firsts n m (k + 1))) := Lib.hid (by rw [HD.out]; exact hG.out.app ((Below.refl _ wo).alloc (Nat.le_refl _) _) hr ha)
            clear hr ha
            go_wp2
            go_roundw
            case rel => exact ⟨k + 1, by omega, by go_num, HX⟩
            case measure => simp [intOf]; omega
    · obtain rfl : k = s := by omega
      go_wp2
      go_ret
      exact ⟨_, rfl, hG.out.row, hG.out.bel, hG.out.own⟩
end Go.Proofs.Ytfbjmaajdblbfaa.Oct
