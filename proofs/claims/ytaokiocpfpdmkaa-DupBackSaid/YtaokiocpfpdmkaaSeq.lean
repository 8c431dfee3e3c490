/- Chapter 01: numbers that go round, as the program has them and as the document does. -/
import Derived.Test.YtaokiocpfpdmkaaSpan
import Derived.IntWalk
set_option linter.unusedSimpArgs false
set_option linter.unusedVariables false
namespace Go.Proofs.Ytaokiocpfpdmkaa.Dups
open Go.BigFrame Go.RowKit Go.OpenShut Go.Proofs.Ytaokiocpfpdmkaa.Aid Go.Proofs.Ytaokiocpfpdmkaa.Spans
def Same (w : World) (v : Value) (e : Ending) (w' : World) : Prop := e = .returned v ∧ w = w'
/-- The shorter way from a to b. -/
def dist (a b : Int) : Int := if (b - a) % 4294967296 < 2147483648 then (b - a) % 4294967296 else (b - a) % 4294967296 - 4294967296
theorem dist_bd (a b : Int) : -2147483648 ≤ dist a b ∧ dist a b < 2147483648 := by unfold dist; split <;> omega
def fits (n : Int) : Bool := decide (0 ≤ n ∧ n ≤ 4611686018427387904)
/-- The offset that a number stands for, next to another one; -1: there is none. -/
def unw (near s : Int) : Int := if fits near = true ∧ fits (near + dist near s) = true then near + dist near s else -1
theorem dist_mod (a b : Int) : dist (a % 4294967296) b = dist a b := by
  unfold dist
  rw [show (b - a % 4294967296) % 4294967296 = (b - a) % 4294967296 by omega]
theorem wrap_calls (n : Int) (w : World) : Calls Try.prog 57 #[.int .i64 n] w (Same w (.int .u32 (n % 4294967296))) := by
  go_enter Try.func57, Try.ntmps57
  go_wp2
  go_ret
  exact ⟨rfl, rfl⟩
theorem dist_calls (a b : Int) (w : World) (a0 : 0 ≤ a) (a1 : a < 4294967296) (b0 : 0 ≤ b) (b1 : b < 4294967296) : Calls Try.prog 76 #[.int .u32 a, .int .u32 b] w (Same w (.int .i64 (dist a b))) := by
  go_enter Try.func76, Try.ntmps76
  go_wp2
  go_ret
  refine ⟨ret_int ?_, rfl⟩
  unfold wrap64 wrap32 dist
  split <;> omega
theorem fits_calls (n : Int) (w : World) : Calls Try.prog 75 #[.int .i64 n] w (Same w (.bool (fits n))) := by
  by_cases h1 : 0 ≤ n
  · by_cases h2 : n ≤ 4611686018427387904
    · rw [show fits n = true from decide_eq_true ⟨h1, h2⟩]
      go_enter Try.func75, Try.ntmps75
      go_wp2
      go_ret
      exact ⟨rfl, rfl⟩
    · rw [show fits n = false from decide_eq_false (fun h => h2 h.2)]
      go_enter Try.func75, Try.ntmps75
      go_wp2
      go_ret
      exact ⟨rfl, rfl⟩
  · rw [show fits n = false from decide_eq_false (fun h => h1 h.1)]
    go_enter Try.func75, Try.ntmps75
    go_wp2
    go_ret
    exact ⟨rfl, rfl⟩
theorem tmod_fact (n : Int) : (n.tmod 4294967296 < 0 ∧ n % 4294967296 = n.tmod 4294967296 + 4294967296 ∧ -4294967296 < n.tmod 4294967296) ∨ (0 ≤ n.tmod 4294967296 ∧ n % 4294967296 = n.tmod 4294967296 ∧ n.tmod 4294967296 < 4294967296) := by
  rcases Int.lt_or_le n 0 with h | h
  · have e : n.tmod 4294967296 = - ((-n) % 4294967296) := by
      have := Int.neg_tmod (-n) 4294967296
      rw [Int.neg_neg] at this
      rw [this, Int.tmod_eq_emod_of_nonneg (by omega)]
    omega
  · rw [Int.tmod_eq_emod_of_nonneg h]
    omega
theorem mod_ref (n : Int) (w : World) : Calls Try.prog 58 #[.int .i64 n] w (Same w (.int .i64 (n % 4294967296))) := by
  rcases tmod_fact n with ⟨h1, h2, h3⟩ | ⟨h1, h2, h3⟩
  · rw [h2]
    clear h2
    generalize hm : n.tmod 4294967296 = m at *
    go_enter Try.func58, Try.ntmps58
    go_wp2
    go_ret
    exact ⟨rfl, rfl⟩
  · rw [h2]
    clear h2
    generalize hm : n.tmod 4294967296 = m at *
    go_enter Try.func58, Try.ntmps58
    go_wp2
    go_ret
    exact ⟨rfl, rfl⟩
/-- The document's way between numbers. -/
theorem dist_ref (a b : Int) (w : World) (a0 : -9223372036854775808 ≤ b - a) (a1 : b - a ≤ 9223372036854775807) : Calls Try.prog 78 #[.int .i64 a, .int .i64 b] w (Same w (.int .i64 (dist a b))) := by
  have K := Lib.hid (mod_ref (b - a))
  have h0 : 0 ≤ (b - a) % 4294967296 := by omega
  have h1 : (b - a) % 4294967296 < 4294967296 := by omega
  unfold dist
  generalize (b - a) % 4294967296 = m at *
  by_cases h : m < 2147483648
  · rw [if_pos h]
    go_enter Try.func78, Try.ntmps78
    go_wp2_with (refine (K.out _).mono ?_; rintro e w1 ⟨rfl, rfl⟩)
    go_ret
    exact ⟨rfl, rfl⟩
  · rw [if_neg h]
    go_enter Try.func78, Try.ntmps78
    go_wp2_with (refine (K.out _).mono ?_; rintro e w1 ⟨rfl, rfl⟩)
    go_ret
    exact ⟨rfl, rfl⟩
theorem unw_yes {near s : Int} (h1 : fits near = true) (h2 : fits (near + dist near s) = true) : unw near s = near + dist near s := if_pos ⟨h1, h2⟩
theorem unw_no {near s : Int} (h : fits near = false ∨ fits (near + dist near s) = false) : unw near s = -1 := if_neg (by
  rintro ⟨h1, h2⟩
  rcases h with h | h
  · rw [h] at h1; cases h1
  · rw [h] at h2; cases h2)
def Two (v : Value) (b : Bool) : Value := .tuple #[v, .bool b]
theorem fits_iff (n : Int) : fits n = true ↔ 0 ≤ n ∧ n ≤ 4611686018427387904 := decide_eq_true_iff
theorem fits_not {n : Int} (h : fits n = false) : ¬ (0 ≤ n ∧ n ≤ 4611686018427387904) := of_decide_eq_false h
/-- The program's: the offset, or 0 and no. -/
theorem unw_calls (near s : Int) (w : World) (s0 : 0 ≤ s) (s1 : s < 4294967296) : Calls Try.prog 48 #[.int .i64 near, .int .u32 s] w (Same w (Two (.int .i64 (if 0 ≤ unw near s then unw near s else 0)) (decide (0 ≤ unw near s)))) := by
  have F := Lib.hid fits_calls
  cases h1 : fits near with
  | false =>
    rw [unw_no (.inl h1)]
    have K1 := Lib.hid (fits_calls near)
    rw [h1] at K1
    clear h1
    go_enter Try.func48, Try.ntmps48
    go_wp2_with (refine (K1.out _).mono ?_; rintro e w1 ⟨rfl, rfl⟩)
    go_ret2
    exact ⟨rfl, rfl⟩
  | true =>
    have hn := (fits_iff near).1 h1
    have hd := dist_bd near s
    have D := Lib.hid (fun w => dist_calls (near % 4294967296) s w (by omega) (by omega) s0 s1)
    rw [dist_mod] at D
    have WR := Lib.hid (wrap_calls near)
    generalize near % 4294967296 = q at D WR
    have K1 := Lib.hid (fits_calls near)
    rw [h1] at K1
    cases h2 : fits (near + dist near s) with
    | false =>
      rw [unw_no (.inr h2)]
      have K2 := Lib.hid (fits_calls (near + dist near s))
      rw [h2] at K2
      clear h1 h2
      generalize dist near s = d at *
      obtain ⟨hn1, hn2⟩ := hn
      obtain ⟨hd1, hd2⟩ := hd
      go_enter Try.func48, Try.ntmps48
      go_wp2_with fail
      refine (K1.out _).mono ?_
      rintro e w1 ⟨rfl, rfl⟩
      go_wp2_with fail
      refine (WR.out _).mono ?_
      rintro e w1 ⟨rfl, rfl⟩
      go_wp2_with fail
      refine (D.out _).mono ?_
      rintro e w1 ⟨rfl, rfl⟩
      go_wp2_with fail
      refine (K2.out _).mono ?_
      rintro e w1 ⟨rfl, rfl⟩
      go_wp2
      go_ret2
      exact ⟨rfl, rfl⟩
    | true =>
      rw [unw_yes h1 h2]
      have hf := ((fits_iff _).1 h2).1
      have hg : decide (0 ≤ near + dist near s) = true := by simpa using hf
      rw [if_pos hf, hg]
      have K2 := Lib.hid (fits_calls (near + dist near s))
      rw [h2] at K2
      clear h1 h2 hg
      generalize dist near s = d at *
      obtain ⟨hn1, hn2⟩ := hn
      obtain ⟨hd1, hd2⟩ := hd
      go_enter Try.func48, Try.ntmps48
      go_wp2_with fail
      refine (K1.out _).mono ?_
      rintro e w1 ⟨rfl, rfl⟩
      go_wp2_with fail
      refine (WR.out _).mono ?_
      rintro e w1 ⟨rfl, rfl⟩
      go_wp2_with fail
      refine (D.out _).mono ?_
      rintro e w1 ⟨rfl, rfl⟩
      go_wp2_with fail
      refine (K2.out _).mono ?_
      rintro e w1 ⟨rfl, rfl⟩
      go_wp2
      go_ret2
      exact ⟨rfl, rfl⟩
/-- The document's: the offset, or -1. -/
theorem unw_ref (near s : Int) (w : World) (s0 : 0 ≤ s) (s1 : s < 4294967296) : Calls Try.prog 51 #[.int .i64 near, .int .i64 s] w (Same w (.int .i64 (unw near s))) := by
  by_cases hn1 : 0 ≤ near
  · by_cases hn2 : near ≤ 4611686018427387904
    · have hd := dist_bd near s
      have D := Lib.hid (fun w => dist_ref (near % 4294967296) s w (by omega) (by omega))
      rw [dist_mod] at D
      have M := Lib.hid (mod_ref near)
      generalize near % 4294967296 = q at D M
      have h1 : fits near = true := (fits_iff _).2 ⟨hn1, hn2⟩
      cases h2 : fits (near + dist near s) with
      | false =>
        rw [unw_no (.inr h2)]
        have hh := fits_not h2
        clear h1 h2
        generalize dist near s = d at *
        obtain ⟨hd1, hd2⟩ := hd
        by_cases hx : near + d < 0
        · clear hh
          go_enter Try.func51, Try.ntmps51
          go_wp2_with (first | (go_at_call 58; refine (M.out _).mono ?_; rintro e w1 ⟨rfl, rfl⟩) | (go_at_call 78; refine (D.out _).mono ?_; rintro e w1 ⟨rfl, rfl⟩))
          go_ret
          exact ⟨rfl, rfl⟩
        · have hy : 4611686018427387904 < near + d := by omega
          clear hh
          go_enter Try.func51, Try.ntmps51
          go_wp2_with (first | (go_at_call 58; refine (M.out _).mono ?_; rintro e w1 ⟨rfl, rfl⟩) | (go_at_call 78; refine (D.out _).mono ?_; rintro e w1 ⟨rfl, rfl⟩))
          go_ret
          exact ⟨rfl, rfl⟩
      | true =>
        rw [unw_yes h1 h2]
        obtain ⟨hf1, hf2⟩ := (fits_iff _).1 h2
        clear h1 h2
        generalize dist near s = d at *
        obtain ⟨hd1, hd2⟩ := hd
        go_enter Try.func51, Try.ntmps51
        go_wp2_with (first | (go_at_call 58; refine (M.out _).mono ?_; rintro e w1 ⟨rfl, rfl⟩) | (go_at_call 78; refine (D.out _).mono ?_; rintro e w1 ⟨rfl, rfl⟩))
        go_ret
        exact ⟨rfl, rfl⟩
    · rw [unw_no (.inl (by rw [Bool.eq_false_iff]; intro h; exact hn2 ((fits_iff _).1 h).2))]
      go_enter Try.func51, Try.ntmps51
      go_wp2
      go_ret
      exact ⟨rfl, rfl⟩
  · rw [unw_no (.inl (by rw [Bool.eq_false_iff]; intro h; exact hn1 ((fits_iff _).1 h).1))]
    go_enter Try.func51, Try.ntmps51
    go_wp2
    go_ret
    exact ⟨rfl, rfl⟩
end Go.Proofs.Ytaokiocpfpdmkaa.Dups
