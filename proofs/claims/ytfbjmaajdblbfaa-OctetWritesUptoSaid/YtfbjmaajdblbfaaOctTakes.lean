/- Chapter 02 (octet): bytes that are taken, held against what is left. -/
import Derived.Test.YtfbjmaajdblbfaaOctReads
set_option linter.unusedSimpArgs false
set_option linter.unusedVariables false
attribute [local go_sem ↓] Go.wp_at_zero Go.wp_at_succ
attribute [local go_sem high] Go.Proofs.Ytfbjmaajdblbfaa.Oct.run_from Go.Proofs.Ytfbjmaajdblbfaa.Oct.run_till
namespace Go.Proofs.Ytfbjmaajdblbfaa.Oct
open Go.RowKit Go.BigFrame Go.OpenShut Go.Proofs.Ytfbjmaajdblbfaa.Aid
set_option maxRecDepth 100000 in
set_option maxHeartbeats 4000000 in
theorem reads_3_arg (w0 w : World) (g b cap at_ c : Nat) (A : Option Addr) (xs : List Int) (q n : Int) (v : Value) (hr : Rd w0 w g b cap at_ xs) (hL : IsL w0 A c at_ xs) (q0 : 0 ≤ q) (q1 : q ≤ 255) (hq : q % 4 = 3) (hn : n < 0) :
    Calls Try.prog 48 #[.pointer (some ⟨g, 0, none⟩), .slice A (xs.length - at_) c, .agg #[.int .u8 q, .int .i64 n, v]] w (Step w0 g b cap at_ xs) := by
  have ht : q.tmod 4 = q % 4 := Int.tmod_eq_emod_of_nonneg q0
  have R0 := Lib.hid (rd_box hr (.cells #[.int .u8 q, .int .i64 n, v] 50))
  have B0 := Lib.hid (Blk.new w 50 #[.int .u8 q, .int .i64 n, v])
  have x0 := B0.out.cell 0
  have HL := Lib.hid hL
  clear hr hL
  go_enter Try.func48, Try.ntmps48
  go_wp2_with fail
  refine (size_calls q 0 _ q0 q1 (by omega)).mono ?_
  rintro e w1 ⟨rfl, b1⟩
  have R1 := Lib.hid (R0.out.below b1)
  have B1 := Lib.hid (B0.out.below b1 B0.out.lt)
  have x1 := B1.out.cell 0
  have y1 := B1.out.cell 1
  clear b1
  go_wp2_with fail
  refine (take_arg g b cap at_ xs n _ R1.out.isR hn).mono ?_
  rintro e w2 ⟨v3, rfl, r3, b3⟩
  unfold two
  obtain ⟨A3, c3, rfl, _, hR3⟩ := r3.reps encB_len
  have R3 := Lib.hid (R1.out.below b3)
  clear b3 r3 hR3
  go_wp2
  go_ret2
  exact ⟨A, c, rfl, HL.out, R3.out⟩
set_option maxRecDepth 100000 in
set_option maxHeartbeats 4000000 in
theorem reads_3_short (w0 w : World) (g b cap at_ c : Nat) (A : Option Addr) (xs : List Int) (q n : Int) (v : Value) (hr : Rd w0 w g b cap at_ xs) (hL : IsL w0 A c at_ xs) (q0 : 0 ≤ q) (q1 : q ≤ 255) (hq : q % 4 = 3) (hn : (xs.length : Int) - at_ < n) :
    Calls Try.prog 48 #[.pointer (some ⟨g, 0, none⟩), .slice A (xs.length - at_) c, .agg #[.int .u8 q, .int .i64 n, v]] w (Step w0 g b cap at_ xs) := by
  have ht : q.tmod 4 = q % 4 := Int.tmod_eq_emod_of_nonneg q0
  have R0 := Lib.hid (rd_box hr (.cells #[.int .u8 q, .int .i64 n, v] 50))
  have B0 := Lib.hid (Blk.new w 50 #[.int .u8 q, .int .i64 n, v])
  have x0 := B0.out.cell 0
  have HL := Lib.hid hL
  have k0 : ¬ n < 0 := by have := hr.isR.le; omega
  have k1 : ((xs.length - at_ : Nat) : Int) < n := by have := hr.isR.le; omega
  clear hr hL
  go_enter Try.func48, Try.ntmps48
  go_wp2_with fail
  refine (size_calls q 0 _ q0 q1 (by omega)).mono ?_
  rintro e w1 ⟨rfl, b1⟩
  have R1 := Lib.hid (R0.out.below b1)
  have B1 := Lib.hid (B0.out.below b1 B0.out.lt)
  have x1 := B1.out.cell 0
  have y1 := B1.out.cell 1
  clear b1
  go_wp2_with fail
  refine (take_short g b cap at_ xs n _ R1.out.isR hn).mono ?_
  rintro e w2 ⟨v3, rfl, r3, b3⟩
  unfold two
  obtain ⟨A3, c3, rfl, _, hR3⟩ := r3.reps encB_len
  have R3 := Lib.hid (R1.out.below b3)
  have K := Lib.hid (value_zero A3 c3 [] w2 hR3 (by simp) (by simp))
  clear b3 r3 hR3
  go_wp2_with ((refine K.out.mono ?_); rintro e w4 ⟨rfl, rfl⟩)
  go_ret2
  exact ⟨A, c, rfl, HL.out, R3.out⟩
set_option maxRecDepth 100000 in
set_option maxHeartbeats 8000000 in
theorem reads_3_ok (w0 w : World) (g b cap at_ c m : Nat) (A : Option Addr) (xs : List Int) (q : Int) (v : Value) (hr : Rd w0 w g b cap at_ xs) (hL : IsL w0 A c at_ xs) (q0 : 0 ≤ q) (q1 : q ≤ 255) (hq : q % 4 = 3) (hn : at_ + m ≤ xs.length) :
    Calls Try.prog 48 #[.pointer (some ⟨g, 0, none⟩), .slice A (xs.length - at_) c, .agg #[.int .u8 q, .int .i64 m, v]] w (Step w0 g b cap (at_ + m) xs) := by
  have ht : q.tmod 4 = q % 4 := Int.tmod_eq_emod_of_nonneg q0
  have R0 := Lib.hid (rd_box hr (.cells #[.int .u8 q, .int .i64 m, v] 50))
  have B0 := Lib.hid (Blk.new w 50 #[.int .u8 q, .int .i64 m, v])
  have x0 := B0.out.cell 0
  have HL := Lib.hid hL
  have hlen : ((xs.drop at_).take m).length = m := by rw [List.length_take, List.length_drop]; omega
  have k0 : ¬ (m : Int) < 0 := by omega
  have k1 : ¬ ((xs.length - at_ : Nat) : Int) < (m : Int) := by omega
  have k4 : (0 : Int) ≤ (m : Int) := by omega
  have k2 : (m : Int) ≤ ((xs.length - at_ : Nat) : Int) := by omega
  have k3 : (m : Int) ≤ (c : Int) := by have := hL.room; omega
  have HM : Hid (m ≤ 9223372036854775807) := Lib.hid (by have := hr.isR.lim; omega)
  have HN := Lib.hid hn
  have HLen := Lib.hid hlen
  clear hr hL hn hlen
  go_enter Try.func48, Try.ntmps48
  go_wp2_with fail
  refine (size_calls q 0 _ q0 q1 (by omega)).mono ?_
  rintro e w1 ⟨rfl, b1⟩
  have R1 := Lib.hid (R0.out.below b1)
  have B1 := Lib.hid (B0.out.below b1 B0.out.lt)
  have x1 := B1.out.cell 0
  have y1 := B1.out.cell 1
  clear b1
  go_wp2_with fail
  refine (take_ok g b cap at_ m xs _ R1.out.isR HN.out).mono ?_
  rintro e w3 ⟨v3, rfl, r3, i2, kp2⟩
  unfold two
  obtain ⟨A3, c3, rfl, _, hR3⟩ := r3.reps encB_len
  have R3 := Lib.hid (R1.out.kept i2 kp2)
  have Z3 := Lib.hid hR3
  clear i2 kp2 r3 hR3
  rw [HLen.out]
  have K : Hid (∀ (d : Nat) (os : Array Obj), Calls Try.prog 41 #[.slice A3 m c3, .slice A m c] (Go.Sort.grow (redrawn w3 d) os) fun e w'' => e = .returned (.bool true) ∧ ∃ p : Regrown, w'' = Go.Sort.grow (redrawn w3 p.d) p.os) := Lib.hid (fun d os => by
    have hW := below_regrown w3 d os
    have := same_calls A3 A c3 c ((xs.drop at_).take m) (Go.Sort.grow (redrawn w3 d) os) (Z3.out.below hW) (reps_till m (HL.out.reps.below (below_then R3.out.bel R3.out.bel.size hW))) (by rw [HLen.out]; exact HM.out)
    rw [HLen.out] at this
    exact Calls.regrown_of this)
  go_wp2
  refine wp_region_quiet_below (by kernel_rfl) (by kernel_rfl) ?_
  repeat (go_big_quiet_step (exact K.out _ _))
  refine wpQuiet_nil ?_
  rintro _ ⟨⟨nq, osq⟩, rfl⟩
  go_wp2
  go_ret2
  exact ⟨Aim A c m, c - m, by rw [Nat.sub_add_eq]; rfl, HL.out.on m (by have := HN.out; omega), R3.out.below (below_regrown w3 nq osq)⟩
/-- Whatever is read: the reader goes on with what is left. -/
theorem reads_calls (w0 w : World) (g b cap at_ c : Nat) (A : Option Addr) (xs : List Int) (q n : Int) (v : Value) (hr : Rd w0 w g b cap at_ xs) (hL : IsL w0 A c at_ xs) (hb : ∀ x ∈ xs, 0 ≤ x ∧ x ≤ 255) (q0 : 0 ≤ q) (q1 : q ≤ 255) :
    Calls Try.prog 48 #[.pointer (some ⟨g, 0, none⟩), .slice A (xs.length - at_) c, .agg #[.int .u8 q, .int .i64 n, v]] w (fun e w' => ∃ at2, Step w0 g b cap at2 xs e w') := by
  have hle := hr.isR.le
  have hc : q % 4 = 0 ∨ q % 4 = 1 ∨ q % 4 = 2 ∨ q % 4 = 3 := by omega
  rcases hc with h | h | h | h
  · by_cases hs : xs.length < at_ + 1
    · exact (reads_0_short w0 w g b cap at_ c A xs q n v hr hL q0 q1 h hs).mono fun e w' h => ⟨_, h⟩
    · exact (reads_0_ok w0 w g b cap at_ c A xs q n v hr hL hb q0 q1 h (by omega)).mono fun e w' h => ⟨_, h⟩
  · by_cases hs : xs.length < at_ + 2
    · exact (reads_1_short w0 w g b cap at_ c A xs q n v hr hL q0 q1 h hs).mono fun e w' h => ⟨_, h⟩
    · exact (reads_1_ok w0 w g b cap at_ c A xs q n v hr hL hb q0 q1 h (by omega)).mono fun e w' h => ⟨_, h⟩
  · by_cases hs : xs.length < at_ + 4
    · exact (reads_2_short w0 w g b cap at_ c A xs q n v hr hL q0 q1 h hs).mono fun e w' h => ⟨_, h⟩
    · exact (reads_2_ok w0 w g b cap at_ c A xs q n v hr hL hb q0 q1 h (by omega)).mono fun e w' h => ⟨_, h⟩
  · by_cases h0 : n < 0
    · exact (reads_3_arg w0 w g b cap at_ c A xs q n v hr hL q0 q1 h h0).mono fun e w' h => ⟨_, h⟩
    · by_cases hs : (xs.length : Int) - at_ < n
      · exact (reads_3_short w0 w g b cap at_ c A xs q n v hr hL q0 q1 h hs).mono fun e w' h => ⟨_, h⟩
      · obtain ⟨m, rfl⟩ := Int.eq_ofNat_of_zero_le (by omega : 0 ≤ n)
        exact (reads_3_ok w0 w g b cap at_ c m A xs q v hr hL q0 q1 h (by omega)).mono fun e w' h => ⟨_, h⟩
end Go.Proofs.Ytfbjmaajdblbfaa.Oct
