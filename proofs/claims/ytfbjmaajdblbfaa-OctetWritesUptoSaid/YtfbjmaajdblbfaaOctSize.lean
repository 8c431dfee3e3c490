/- Chapter 02 (octet): the number that bytes say; how many bytes a kind has; a part of a slice. -/
import Derived.Test.YtfbjmaajdblbfaaOctRef
set_option linter.unusedSimpArgs false
set_option linter.unusedVariables false
attribute [local go_sem ↓] Go.wp_at_zero Go.wp_at_succ
namespace Go.Proofs.Ytfbjmaajdblbfaa.Oct
open Go.RowKit Go.OpenShut Go.Proofs.Ytfbjmaajdblbfaa.Aid
set_option maxRecDepth 100000 in
set_option maxHeartbeats 4000000 in
theorem value_zero (A : Option Addr) (c : Nat) (xs : List Int) (w : World) (hA : Reps w A 1 encB xs) (hz : ∀ x ∈ xs, x = 0) (hl : xs.length ≤ 9223372036854775806) : Calls Try.prog 60 #[.slice A xs.length c] w (Same w (.int .u32 0)) := by
  have RA := Lib.hid hA
  have HZ := Lib.hid hz
  clear hA hz
  go_enter Try.func60, Try.ntmps60
  go_wp2
  go_loop [3, 4] (fun n i => ∃ k : Nat, k ≤ xs.length ∧ i = .int .i64 k ∧ n = .int .u32 0) (fun _ i => xs.length - (intOf i).toNat)
  case atStart => exact ⟨0, by omega, rfl, rfl⟩
  case round =>
    obtain ⟨k, hk, rfl, rfl⟩ := hrel
    by_cases hlt : k < xs.length
    · obtain ⟨x, hx⟩ : ∃ x, xs[k]? = some x := ⟨_, List.getElem?_eq_getElem hlt⟩
      obtain ⟨ad, rfl, had, hc⟩ := RA.out k x hx
      obtain rfl := HZ.out x (List.mem_of_getElem? hx)
      have c0 : w.cell? (ad.add k) = some (.int .u8 0) := by have := hc 0 _ rfl; simpa using this
      have q0 : (0 : Int) ≤ (k : Int) := by omega
      have q1 : (k : Int) < (xs.length : Int) := by omega
      clear hc hx
      go_wp2
      go_round
      case rel => exact ⟨k + 1, by omega, by go_num, rfl⟩
      case measure => simp [intOf]; omega
    · obtain rfl : k = xs.length := by omega
      go_wp2
      go_ret
      exact ⟨rfl, rfl⟩
def kindSize (q : Int) : Int := if q % 4 = 0 then 1 else if q % 4 = 1 then 2 else if q % 4 = 2 then 4 else 0
set_option maxRecDepth 100000 in
set_option maxHeartbeats 4000000 in
theorem size_calls (q s : Int) (w : World) (q0 : 0 ≤ q) (q1 : q ≤ 255) (hs : (q % 4 = 0 ∧ s = 1) ∨ (q % 4 = 1 ∧ s = 2) ∨ (q % 4 = 2 ∧ s = 4) ∨ (q % 4 = 3 ∧ s = 0)) : Calls Try.prog 59 #[.int .u8 q] w (Gives w (.int .i64 s)) := by
  have B : Blk (w.alloc (.cells #[.int .i64 1, .int .i64 2, .int .i64 4, .int .i64 0] 3)) w.heap.size 3 #[.int .i64 1, .int .i64 2, .int .i64 4, .int .i64 0] := Blk.new w 3 _
  have ht : q.tmod 4 = q % 4 := Int.tmod_eq_emod_of_nonneg q0
  rcases hs with ⟨h, rfl⟩ | ⟨h, rfl⟩ | ⟨h, rfl⟩ | ⟨h, rfl⟩
  all_goals
    go_enter Try.func59, Try.ntmps59
    go_wp2
    go_ret
    exact ⟨rfl, (Below.refl _ w).alloc (Nat.le_refl _) _⟩
/-- Where a part of a slice begins. -/
def Aim (a : Option Addr) (cap l : Nat) : Option Addr := if cap = l then a else a.map (·.add l)
theorem run_from (a : Option Addr) (len cap : Nat) (l : Int) (w : World) (h0 : 0 ≤ l) (h1 : l ≤ len) :
    (Instr.slice 43 (.slice a len cap) (some (.int .i64 l)) none none).run Try.prog w = .ok (.slice (Aim a cap l.toNat) (len - l.toNat) (cap - l.toNat)) w := by
  rw [run_slice_l (P := Try.prog) w 43 a len cap (by rfl) .i64 l h0 h1]
  have he : Try.prog.elem 43 = 5 := by rfl
  simp [he, sliced, Aim, go_sem]
theorem run_till (a : Option Addr) (len cap : Nat) (l : Int) (w : World) (h0 : 0 ≤ l) (h1 : l ≤ cap) :
    (Instr.slice 43 (.slice a len cap) none (some (.int .i64 l)) none).run Try.prog w = .ok (.slice a l.toNat cap) w := by
  rw [run_slice_h (P := Try.prog) w 43 a len cap (by rfl) .i64 l h0 h1]
  have he : Try.prog.elem 43 = 5 := by rfl
  simp [he, sliced, go_sem]
theorem reps_from {w : World} {a : Option Addr} {cap at_ l : Nat} {xs : List Int} (h : Reps w a 1 encB (xs.drop at_)) (hc : xs.length - at_ ≤ cap) : Reps w (Aim a cap l) 1 encB (xs.drop (at_ + l)) := by
  intro i x hx
  have hx2 : (xs.drop at_)[l + i]? = some x := by
    rw [List.getElem?_drop] at hx ⊢
    rw [← hx]; congr 1; omega
  obtain ⟨ad, rfl, had, hcell⟩ := h (l + i) x hx2
  have hlt : l + i < (xs.drop at_).length := (List.getElem?_eq_some_iff.1 hx2).1
  rw [List.length_drop] at hlt
  refine ⟨ad.add l, by simp [Aim]; omega, by unfold Addr.add; split <;> exact had, fun j v hv => ?_⟩
  have := hcell j v hv
  rw [Go.Addr.add_add]
  rw [← this]; congr 2; omega
theorem reps_till {w : World} {a : Option Addr} {xs : List Int} (k : Nat) (h : Reps w a 1 encB xs) : Reps w a 1 encB (xs.take k) := by
  intro i x hx
  refine h i x ?_
  rw [List.getElem?_take] at hx
  split at hx
  · exact hx
  · cases hx
theorem bes_val1 (c : Int) (h : 0 ≤ c ∧ c ≤ 255) : bes (val [c]) 1 0 = [c] := by
  have e : bes (val [c]) 1 0 = [dig (val [c]) 0] := rfl
  rw [e]
  simp only [val, dig, List.foldl_cons, List.foldl_nil]
  congr 1
  omega
theorem bes_val2 (c d : Int) (h : 0 ≤ c ∧ c ≤ 255) (h' : 0 ≤ d ∧ d ≤ 255) : bes (val [c, d]) 2 0 = [c, d] := by
  have e : bes (val [c, d]) 2 0 = [dig (val [c, d]) 1, dig (val [c, d]) 0] := rfl
  rw [e]
  simp only [val, dig, List.foldl_cons, List.foldl_nil]
  congr 1
  · omega
  congr 1
  omega
theorem bes_val4 (c d e f : Int) (h : 0 ≤ c ∧ c ≤ 255) (h' : 0 ≤ d ∧ d ≤ 255) (h2 : 0 ≤ e ∧ e ≤ 255) (h3 : 0 ≤ f ∧ f ≤ 255) : bes (val [c, d, e, f]) 4 0 = [c, d, e, f] := by
  have e : bes (val [c, d, e, f]) 4 0 = [dig (val [c, d, e, f]) 3, dig (val [c, d, e, f]) 2, dig (val [c, d, e, f]) 1, dig (val [c, d, e, f]) 0] := rfl
  rw [e]
  simp only [val, dig, List.foldl_cons, List.foldl_nil]
  congr 1
  · omega
  congr 1
  · omega
  congr 1
  · omega
  congr 1
  omega
theorem bes_val (ys : List Int) (hb : ∀ x ∈ ys, 0 ≤ x ∧ x ≤ 255) (hl : ys.length = 1 ∨ ys.length = 2 ∨ ys.length = 4) : bes (val ys) ys.length 0 = ys := by
  match ys, hb, hl with
  | [c], hb, _ => exact bes_val1 c (hb c (by simp))
  | [c, d], hb, _ => exact bes_val2 c d (hb c (by simp)) (hb d (by simp))
  | [c, d, e, f], hb, _ => exact bes_val4 c d e f (hb c (by simp)) (hb d (by simp)) (hb e (by simp)) (hb f (by simp))
  | [], _, hl => simp at hl
  | [_, _, _], _, hl => simp at hl
  | _ :: _ :: _ :: _ :: _ :: _, _, hl => simp at hl
theorem bes_zero (s : Nat) : ∀ x ∈ bes 0 s 0, x = 0 := by
  intro x hx
  unfold bes at hx
  obtain ⟨t, _, rfl⟩ := List.mem_map.1 hx
  unfold dig
  simp
end Go.Proofs.Ytfbjmaajdblbfaa.Oct
