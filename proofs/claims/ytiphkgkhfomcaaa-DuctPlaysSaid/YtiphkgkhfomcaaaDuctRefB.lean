/- Chapter 25 (duct): the document's Nth (57). -/
import Derived.Test.YtiphkgkhfomcaaaDuctRefA
set_option linter.unusedSimpArgs false
set_option linter.unusedVariables false
attribute [local go_sem ↓] Go.wp_at_zero Go.wp_at_succ
namespace Go.Proofs.Ytiphkgkhfomcaaa.Duct
open Go.BigFrame Go.RowKit Go.OpenShut Go.Proofs.Ytiphkgkhfomcaaa.Aid Go.Proofs.Ytiphkgkhfomcaaa.DMap Go.Proofs.Ytiphkgkhfomcaaa.Byt
def nthP : List Cp → Nat → Nat → Int
  | [], _, _ => -1
  | c :: r, k, n => if c.f.kind = 0 then (if n = 0 then (k : Int) else nthP r (k + 1) (n - 1)) else nthP r (k + 1) n
theorem nthP_at {cs : List Cp} {k n : Nat} {c : Cp} (h : cs[k]? = some c) : nthP (cs.drop k) k n = if c.f.kind = 0 then (if n = 0 then (k : Int) else nthP (cs.drop (k + 1)) (k + 1) (n - 1)) else nthP (cs.drop (k + 1)) (k + 1) n := by
  obtain ⟨hk, hc⟩ := List.getElem?_eq_some_iff.1 h
  rw [List.drop_eq_getElem_cons hk, hc]
  rfl
set_option maxRecDepth 100000 in
set_option maxHeartbeats 4000000 in
theorem rnth_calls (la : Int) (i : Nat) (A : Option Addr) (cap : Nat) (cs : List Cp) (w : World) (hA : Reps w A 5 encP cs) (hl : cs.length ≤ 1000000) (hi : i ≤ 1000000) :
    Calls Try.prog 57 #[.agg #[.int .i64 la, .slice A cs.length cap], .int .i64 i] w (Gives w (.int .i64 (nthP cs 0 i))) := by
  have RA := Lib.hid hA
  have X := Lib.hid (Blk.new w 76 #[.int .i64 la, .slice A cs.length cap])
  have hB := Lib.hid ((Below.refl w.heap.size w).alloc (Nat.le_refl _) (.cells #[.int .i64 la, .slice A cs.length cap] 76))
  clear hA
  go_enter Try.func57, Try.ntmps57
  go_wp2
  go_loopw [5, 6] (fun c j wr => ∃ k n : Nat, k ≤ cs.length ∧ n ≤ i ∧ j = .int .i64 k ∧ c = .int .i64 n ∧ Hid (nthP (cs.drop k) k n = nthP cs 0 i) ∧ Hid (wr = w.alloc (.cells #[.int .i64 la, .slice A cs.length cap] 76))) (fun _ j _ => cs.length - (intOf j).toNat)
  case atStart => exact ⟨0, i, by omega, by omega, rfl, rfl, Lib.hid rfl, Lib.hid rfl⟩
  case round =>
    obtain ⟨k, n, hk, hn, rfl, rfl, hP, hW⟩ := hrel
    obtain rfl := hW.out
    have c1 := X.out.cell 1
    simp at c1
    by_cases hlt : k < cs.length
    · obtain ⟨x, hx⟩ : ∃ x, cs[k]? = some x := ⟨_, List.getElem?_eq_getElem hlt⟩
      have hcc := cp_cells (RA.out.below ((Below.refl _ w).alloc (Nat.le_refl _) (.cells #[.int .i64 la, .slice A cs.length cap] 76))) hx
      have hs := Lib.hid ((nthP_at (n := n) hx).symm.trans hP.out)
      have q0 : (0 : Int) ≤ (k : Int) := by omega
      have q1 : (k : Int) < (cs.length : Int) := by omega
      clear hx
      obtain ⟨ad, rfl, had, _, _, _, x3, _⟩ := hcc
      by_cases hz : x.f.kind = 0
      · rw [hz] at x3
        by_cases h0 : n = 0
        · subst h0
          have e2 := Lib.hid ((show (k : Int) = nthP cs 0 i by have := hs.out; rwa [if_pos hz, if_pos rfl] at this))
          clear hs hz hP
          go_wp2
          go_ret
          exact ⟨by rw [← e2.out]; rfl, hB.out⟩
        · have e2 := Lib.hid ((show nthP (cs.drop (k + 1)) (k + 1) (n - 1) = nthP cs 0 i by have := hs.out; rwa [if_pos hz, if_neg h0] at this))
          have h0' : ¬ (n : Int) = 0 := by omega
          clear hs hz hP
          go_wp2
          go_roundw
          case rel => exact ⟨k + 1, n - 1, by omega, by omega, by go_num, by first | go_num | (congr 1; omega), e2, Lib.hid (by trivial)⟩
          case measure => simp [intOf]; omega
      · have e2 := Lib.hid ((show nthP (cs.drop (k + 1)) (k + 1) n = nthP cs 0 i by have := hs.out; rwa [if_neg hz] at this))
        clear hs hP
        go_wp2
        go_roundw
        case rel => exact ⟨k + 1, n, by omega, by omega, by go_num, rfl, e2, Lib.hid (by trivial)⟩
        case measure => simp [intOf]; omega
    · obtain rfl : k = cs.length := by omega
      have e2 := Lib.hid ((show (-1 : Int) = nthP cs 0 i by have := hP.out; rwa [List.drop_length] at this))
      clear hP
      go_wp2
      go_ret
      exact ⟨by rw [← e2.out]; rfl, hB.out⟩
end Go.Proofs.Ytiphkgkhfomcaaa.Duct
