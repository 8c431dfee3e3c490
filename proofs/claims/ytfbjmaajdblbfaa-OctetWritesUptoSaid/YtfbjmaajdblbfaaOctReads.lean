/- Chapter 02 (octet): one thing that is read. -/
import Derived.Test.YtfbjmaajdblbfaaOctSize
import Derived.Test.YtfbjmaajdblbfaaRegrown
import Derived.BigQuiet
set_option linter.unusedSimpArgs false
set_option linter.unusedVariables false
attribute [local go_sem ↓] Go.wp_at_zero Go.wp_at_succ
attribute [local go_sem high] Go.Proofs.Ytfbjmaajdblbfaa.Oct.run_from Go.Proofs.Ytfbjmaajdblbfaa.Oct.run_till
namespace Go.Proofs.Ytfbjmaajdblbfaa.Oct
open Go.RowKit Go.BigFrame Go.OpenShut Go.Proofs.Ytfbjmaajdblbfaa.Aid
/-- What is left: a part of the list that came in. -/
structure IsL (w : World) (A : Option Addr) (c at_ : Nat) (xs : List Int) : Prop where
  reps : Reps w A 1 encB (xs.drop at_)
  room : xs.length - at_ ≤ c
theorem IsL.on {w : World} {A : Option Addr} {c at_ : Nat} {xs : List Int} (h : IsL w A c at_ xs) (k : Nat) (hk : k ≤ xs.length - at_) : IsL w (Aim A c k) (c - k) (at_ + k) xs :=
  ⟨reps_from h.reps h.room, by have := h.room; omega⟩
def Step (w0 : World) (g b cap at2 : Nat) (xs : List Int) (e : Ending) (w' : World) : Prop :=
  ∃ A c, e = .returned (.tuple #[.slice A (xs.length - at2) c, .bool true]) ∧ IsL w0 A c at2 xs ∧ Rd w0 w' g b cap at2 xs
theorem rd_box {w0 w : World} {g b cap at_ : Nat} {xs : List Int} (h : Rd w0 w g b cap at_ xs) (o : Obj) : Rd w0 (w.alloc o) g b cap at_ xs := h.below ((Below.refl _ w).alloc (Nat.le_refl _) o)
set_option maxRecDepth 100000 in
set_option maxHeartbeats 4000000 in
theorem reads_0_short (w0 w : World) (g b cap at_ c : Nat) (A : Option Addr) (xs : List Int) (q n : Int) (v : Value) (hr : Rd w0 w g b cap at_ xs) (hL : IsL w0 A c at_ xs) (q0 : 0 ≤ q) (q1 : q ≤ 255) (hq : q % 4 = 0) (hn : xs.length < at_ + 1) :
    Calls Try.prog 48 #[.pointer (some ⟨g, 0, none⟩), .slice A (xs.length - at_) c, .agg #[.int .u8 q, .int .i64 n, v]] w (Step w0 g b cap at_ xs) := by
  have ht : q.tmod 4 = q % 4 := Int.tmod_eq_emod_of_nonneg q0
  have R0 := Lib.hid (rd_box hr (.cells #[.int .u8 q, .int .i64 n, v] 50))
  have B0 := Lib.hid (Blk.new w 50 #[.int .u8 q, .int .i64 n, v])
  have x0 := B0.out.cell 0
  have HL := Lib.hid hL
  have k1 : ((xs.length - at_ : Nat) : Int) < 1 := by have := hr.isR.le; omega
  clear hr hL
  go_enter Try.func48, Try.ntmps48
  go_wp2_with fail
  refine (size_calls q 1 _ q0 q1 (by omega)).mono ?_
  rintro e w1 ⟨rfl, b1⟩
  have R1 := Lib.hid (R0.out.below b1)
  have B1 := Lib.hid (B0.out.below b1 B0.out.lt)
  have x1 := B1.out.cell 0
  clear b1
  go_wp2_with fail
  refine (rone_short g b cap at_ xs _ R1.out.isR hn).mono ?_
  rintro e w2 ⟨rfl, b2⟩
  have R2 := Lib.hid (R1.out.below b2)
  clear b2
  go_wp2_with fail
  refine (refnumber_calls 0 1 _ (by omega) (by omega) (by omega)).mono ?_
  rintro e w3 ⟨v3, rfl, r3, b3, _⟩
  obtain ⟨A3, c3, rfl, _, hR3⟩ := r3.reps encB_len
  have R3 := Lib.hid (R2.out.below b3)
  have Z3 := Lib.hid hR3
  clear b3 r3 hR3
  have K := Lib.hid (value_zero A3 c3 (bes 0 1 0) w3 Z3.out (bes_zero 1) (by simp [bes_len]))
  go_wp2_with ((refine K.out.mono ?_); rintro e w4 ⟨rfl, rfl⟩)
  go_ret2
  exact ⟨A, c, rfl, HL.out, R3.out⟩
set_option maxRecDepth 100000 in
set_option maxHeartbeats 8000000 in
theorem reads_0_ok (w0 w : World) (g b cap at_ c : Nat) (A : Option Addr) (xs : List Int) (q n : Int) (v : Value) (hr : Rd w0 w g b cap at_ xs) (hL : IsL w0 A c at_ xs) (hb : ∀ x ∈ xs, 0 ≤ x ∧ x ≤ 255) (q0 : 0 ≤ q) (q1 : q ≤ 255) (hq : q % 4 = 0) (hn : at_ + 1 ≤ xs.length) :
    Calls Try.prog 48 #[.pointer (some ⟨g, 0, none⟩), .slice A (xs.length - at_) c, .agg #[.int .u8 q, .int .i64 n, v]] w (Step w0 g b cap (at_ + 1) xs) := by
  have ht : q.tmod 4 = q % 4 := Int.tmod_eq_emod_of_nonneg q0
  have R0 := Lib.hid (rd_box hr (.cells #[.int .u8 q, .int .i64 n, v] 50))
  have B0 := Lib.hid (Blk.new w 50 #[.int .u8 q, .int .i64 n, v])
  have x0 := B0.out.cell 0
  have HL := Lib.hid hL
  have HB := Lib.hid hb
  have hlen : ((xs.drop at_).take 1).length = 1 := by rw [List.length_take, List.length_drop]; omega
  have hys : bes (val ((xs.drop at_).take 1)) 1 0 = (xs.drop at_).take 1 := by
    have := bes_val ((xs.drop at_).take 1) (fun x hx => hb x (List.mem_of_mem_drop (List.mem_of_mem_take hx))) (by omega)
    rwa [hlen] at this
  have hv := val_bd 1 ((xs.drop at_).take 1) hlen (fun x hx => hb x (List.mem_of_mem_drop (List.mem_of_mem_take hx)))
  have v0 := hv.1
  have v1 : val ((xs.drop at_).take 1) ≤ 255 := by have := hv.2; have e : (256 : Int) ^ 1 = 256 := (by decide); omega
  have k1 : ¬ ((xs.length - at_ : Nat) : Int) < 1 := by omega
  have k2 : (1 : Int) ≤ ((xs.length - at_ : Nat) : Int) := by omega
  have k3 : (1 : Int) ≤ (c : Int) := by have := hL.room; omega
  have HY := Lib.hid hys
  have HN := Lib.hid hn
  have HLen := Lib.hid hlen
  clear hr hL hb hv hys hn hlen
  go_enter Try.func48, Try.ntmps48
  go_wp2_with fail
  refine (size_calls q 1 _ q0 q1 (by omega)).mono ?_
  rintro e w1 ⟨rfl, b1⟩
  have R1 := Lib.hid (R0.out.below b1)
  have B1 := Lib.hid (B0.out.below b1 B0.out.lt)
  have x1 := B1.out.cell 0
  clear b1
  go_wp2_with fail
  refine (rone_ok g b cap at_ xs _ R1.out.isR HB.out HN.out).mono ?_
  rintro e w2 ⟨rfl, i2, kp2⟩
  have R2 := Lib.hid (R1.out.kept i2 kp2)
  clear i2 kp2
  go_wp2_with fail
  refine (refnumber_calls (val ((xs.drop at_).take 1)) 1 _ (by omega) (by omega) (by omega)).mono ?_
  rintro e w3 ⟨v3, rfl, r3, b3, _⟩
  rw [HY.out] at r3
  obtain ⟨A3, c3, rfl, _, hR3⟩ := r3.reps encB_len
  have R3 := Lib.hid (R2.out.below b3)
  have Z3 := Lib.hid hR3
  clear b3 r3 hR3
  rw [HLen.out]
  have K : Hid (∀ (d : Nat) (os : Array Obj), Calls Try.prog 41 #[.slice A3 1 c3, .slice A 1 c] (Go.Sort.grow (redrawn w3 d) os) fun e w'' => e = .returned (.bool true) ∧ ∃ p : Regrown, w'' = Go.Sort.grow (redrawn w3 p.d) p.os) := Lib.hid (fun d os => by
    have hW := below_regrown w3 d os
    have := same_calls A3 A c3 c ((xs.drop at_).take 1) (Go.Sort.grow (redrawn w3 d) os) (Z3.out.below hW) (reps_till 1 (HL.out.reps.below (below_then R3.out.bel R3.out.bel.size hW))) (by rw [HLen.out]; decide)
    rw [HLen.out] at this
    exact Calls.regrown_of this)
  go_wp2
  refine wp_region_quiet_below (by kernel_rfl) (by kernel_rfl) ?_
  repeat (go_big_quiet_step (exact K.out _ _))
  refine wpQuiet_nil ?_
  rintro _ ⟨⟨nq, osq⟩, rfl⟩
  go_wp2
  go_ret2
  exact ⟨Aim A c 1, c - 1, by rw [Nat.sub_add_eq]; rfl, HL.out.on 1 (by have := HN.out; omega), R3.out.below (below_regrown w3 nq osq)⟩
set_option maxRecDepth 100000 in
set_option maxHeartbeats 4000000 in
theorem reads_1_short (w0 w : World) (g b cap at_ c : Nat) (A : Option Addr) (xs : List Int) (q n : Int) (v : Value) (hr : Rd w0 w g b cap at_ xs) (hL : IsL w0 A c at_ xs) (q0 : 0 ≤ q) (q1 : q ≤ 255) (hq : q % 4 = 1) (hn : xs.length < at_ + 2) :
    Calls Try.prog 48 #[.pointer (some ⟨g, 0, none⟩), .slice A (xs.length - at_) c, .agg #[.int .u8 q, .int .i64 n, v]] w (Step w0 g b cap at_ xs) := by
  have ht : q.tmod 4 = q % 4 := Int.tmod_eq_emod_of_nonneg q0
  have R0 := Lib.hid (rd_box hr (.cells #[.int .u8 q, .int .i64 n, v] 50))
  have B0 := Lib.hid (Blk.new w 50 #[.int .u8 q, .int .i64 n, v])
  have x0 := B0.out.cell 0
  have HL := Lib.hid hL
  have k1 : ((xs.length - at_ : Nat) : Int) < 2 := by have := hr.isR.le; omega
  clear hr hL
  go_enter Try.func48, Try.ntmps48
  go_wp2_with fail
  refine (size_calls q 2 _ q0 q1 (by omega)).mono ?_
  rintro e w1 ⟨rfl, b1⟩
  have R1 := Lib.hid (R0.out.below b1)
  have B1 := Lib.hid (B0.out.below b1 B0.out.lt)
  have x1 := B1.out.cell 0
  clear b1
  go_wp2_with fail
  refine (rtwo_short g b cap at_ xs _ R1.out.isR hn).mono ?_
  rintro e w2 ⟨rfl, b2⟩
  have R2 := Lib.hid (R1.out.below b2)
  clear b2
  go_wp2_with fail
  refine (refnumber_calls 0 2 _ (by omega) (by omega) (by omega)).mono ?_
  rintro e w3 ⟨v3, rfl, r3, b3, _⟩
  obtain ⟨A3, c3, rfl, _, hR3⟩ := r3.reps encB_len
  have R3 := Lib.hid (R2.out.below b3)
  have Z3 := Lib.hid hR3
  clear b3 r3 hR3
  have K := Lib.hid (value_zero A3 c3 (bes 0 2 0) w3 Z3.out (bes_zero 2) (by simp [bes_len]))
  go_wp2_with ((refine K.out.mono ?_); rintro e w4 ⟨rfl, rfl⟩)
  go_ret2
  exact ⟨A, c, rfl, HL.out, R3.out⟩
set_option maxRecDepth 100000 in
set_option maxHeartbeats 8000000 in
theorem reads_1_ok (w0 w : World) (g b cap at_ c : Nat) (A : Option Addr) (xs : List Int) (q n : Int) (v : Value) (hr : Rd w0 w g b cap at_ xs) (hL : IsL w0 A c at_ xs) (hb : ∀ x ∈ xs, 0 ≤ x ∧ x ≤ 255) (q0 : 0 ≤ q) (q1 : q ≤ 255) (hq : q % 4 = 1) (hn : at_ + 2 ≤ xs.length) :
    Calls Try.prog 48 #[.pointer (some ⟨g, 0, none⟩), .slice A (xs.length - at_) c, .agg #[.int .u8 q, .int .i64 n, v]] w (Step w0 g b cap (at_ + 2) xs) := by
  have ht : q.tmod 4 = q % 4 := Int.tmod_eq_emod_of_nonneg q0
  have R0 := Lib.hid (rd_box hr (.cells #[.int .u8 q, .int .i64 n, v] 50))
  have B0 := Lib.hid (Blk.new w 50 #[.int .u8 q, .int .i64 n, v])
  have x0 := B0.out.cell 0
  have HL := Lib.hid hL
  have HB := Lib.hid hb
  have hlen : ((xs.drop at_).take 2).length = 2 := by rw [List.length_take, List.length_drop]; omega
  have hys : bes (val ((xs.drop at_).take 2)) 2 0 = (xs.drop at_).take 2 := by
    have := bes_val ((xs.drop at_).take 2) (fun x hx => hb x (List.mem_of_mem_drop (List.mem_of_mem_take hx))) (by omega)
    rwa [hlen] at this
  have hv := val_bd 2 ((xs.drop at_).take 2) hlen (fun x hx => hb x (List.mem_of_mem_drop (List.mem_of_mem_take hx)))
  have v0 := hv.1
  have v1 : val ((xs.drop at_).take 2) ≤ 65535 := by have := hv.2; have e : (256 : Int) ^ 2 = 65536 := (by decide); omega
  have k1 : ¬ ((xs.length - at_ : Nat) : Int) < 2 := by omega
  have k2 : (2 : Int) ≤ ((xs.length - at_ : Nat) : Int) := by omega
  have k3 : (2 : Int) ≤ (c : Int) := by have := hL.room; omega
  have HY := Lib.hid hys
  have HN := Lib.hid hn
  have HLen := Lib.hid hlen
  clear hr hL hb hv hys hn hlen
  go_enter Try.func48, Try.ntmps48
  go_wp2_with fail
  refine (size_calls q 2 _ q0 q1 (by omega)).mono ?_
  rintro e w1 ⟨rfl, b1⟩
  have R1 := Lib.hid (R0.out.below b1)
  have B1 := Lib.hid (B0.out.below b1 B0.out.lt)
  have x1 := B1.out.cell 0
  clear b1
  go_wp2_with fail
  refine (rtwo_ok g b cap at_ xs _ R1.out.isR HB.out HN.out).mono ?_
  rintro e w2 ⟨rfl, i2, kp2⟩
  have R2 := Lib.hid (R1.out.kept i2 kp2)
  clear i2 kp2
  go_wp2_with fail
  refine (refnumber_calls (val ((xs.drop at_).take 2)) 2 _ (by omega) (by omega) (by omega)).mono ?_
  rintro e w3 ⟨v3, rfl, r3, b3, _⟩
  rw [HY.out] at r3
  obtain ⟨A3, c3, rfl, _, hR3⟩ := r3.reps encB_len
  have R3 := Lib.hid (R2.out.below b3)
  have Z3 := Lib.hid hR3
  clear b3 r3 hR3
  rw [HLen.out]
  have K : Hid (∀ (d : Nat) (os : Array Obj), Calls Try.prog 41 #[.slice A3 2 c3, .slice A 2 c] (Go.Sort.grow (redrawn w3 d) os) fun e w'' => e = .returned (.bool true) ∧ ∃ p : Regrown, w'' = Go.Sort.grow (redrawn w3 p.d) p.os) := Lib.hid (fun d os => by
    have hW := below_regrown w3 d os
    have := same_calls A3 A c3 c ((xs.drop at_).take 2) (Go.Sort.grow (redrawn w3 d) os) (Z3.out.below hW) (reps_till 2 (HL.out.reps.below (below_then R3.out.bel R3.out.bel.size hW))) (by rw [HLen.out]; decide)
    rw [HLen.out] at this
    exact Calls.regrown_of this)
  go_wp2
  refine wp_region_quiet_below (by kernel_rfl) (by kernel_rfl) ?_
  repeat (go_big_quiet_step (exact K.out _ _))
  refine wpQuiet_nil ?_
  rintro _ ⟨⟨nq, osq⟩, rfl⟩
  go_wp2
  go_ret2
  exact ⟨Aim A c 2, c - 2, by rw [Nat.sub_add_eq]; rfl, HL.out.on 2 (by have := HN.out; omega), R3.out.below (below_regrown w3 nq osq)⟩
set_option maxRecDepth 100000 in
set_option maxHeartbeats 4000000 in
theorem reads_2_short (w0 w : World) (g b cap at_ c : Nat) (A : Option Addr) (xs : List Int) (q n : Int) (v : Value) (hr : Rd w0 w g b cap at_ xs) (hL : IsL w0 A c at_ xs) (q0 : 0 ≤ q) (q1 : q ≤ 255) (hq : q % 4 = 2) (hn : xs.length < at_ + 4) :
    Calls Try.prog 48 #[.pointer (some ⟨g, 0, none⟩), .slice A (xs.length - at_) c, .agg #[.int .u8 q, .int .i64 n, v]] w (Step w0 g b cap at_ xs) := by
  have ht : q.tmod 4 = q % 4 := Int.tmod_eq_emod_of_nonneg q0
  have R0 := Lib.hid (rd_box hr (.cells #[.int .u8 q, .int .i64 n, v] 50))
  have B0 := Lib.hid (Blk.new w 50 #[.int .u8 q, .int .i64 n, v])
  have x0 := B0.out.cell 0
  have HL := Lib.hid hL
  have k1 : ((xs.length - at_ : Nat) : Int) < 4 := by have := hr.isR.le; omega
  clear hr hL
  go_enter Try.func48, Try.ntmps48
  go_wp2_with fail
  refine (size_calls q 4 _ q0 q1 (by omega)).mono ?_
  rintro e w1 ⟨rfl, b1⟩
  have R1 := Lib.hid (R0.out.below b1)
  have B1 := Lib.hid (B0.out.below b1 B0.out.lt)
  have x1 := B1.out.cell 0
  clear b1
  go_wp2_with fail
  refine (rfour_short g b cap at_ xs _ R1.out.isR hn).mono ?_
  rintro e w2 ⟨rfl, b2⟩
  have R2 := Lib.hid (R1.out.below b2)
  clear b2
  go_wp2_with fail
  refine (refnumber_calls 0 4 _ (by omega) (by omega) (by omega)).mono ?_
  rintro e w3 ⟨v3, rfl, r3, b3, _⟩
  obtain ⟨A3, c3, rfl, _, hR3⟩ := r3.reps encB_len
  have R3 := Lib.hid (R2.out.below b3)
  have Z3 := Lib.hid hR3
  clear b3 r3 hR3
  have K := Lib.hid (value_zero A3 c3 (bes 0 4 0) w3 Z3.out (bes_zero 4) (by simp [bes_len]))
  go_wp2_with ((refine K.out.mono ?_); rintro e w4 ⟨rfl, rfl⟩)
  go_ret2
  exact ⟨A, c, rfl, HL.out, R3.out⟩
set_option maxRecDepth 100000 in
set_option maxHeartbeats 8000000 in
theorem reads_2_ok (w0 w : World) (g b cap at_ c : Nat) (A : Option Addr) (xs : List Int) (q n : Int) (v : Value) (hr : Rd w0 w g b cap at_ xs) (hL : IsL w0 A c at_ xs) (hb : ∀ x ∈ xs, 0 ≤ x ∧ x ≤ 255) (q0 : 0 ≤ q) (q1 : q ≤ 255) (hq : q % 4 = 2) (hn : at_ + 4 ≤ xs.length) :
    Calls Try.prog 48 #[.pointer (some ⟨g, 0, none⟩), .slice A (xs.length - at_) c, .agg #[.int .u8 q, .int .i64 n, v]] w (Step w0 g b cap (at_ + 4) xs) := by
  have ht : q.tmod 4 = q % 4 := Int.tmod_eq_emod_of_nonneg q0
  have R0 := Lib.hid (rd_box hr (.cells #[.int .u8 q, .int .i64 n, v] 50))
  have B0 := Lib.hid (Blk.new w 50 #[.int .u8 q, .int .i64 n, v])
  have x0 := B0.out.cell 0
  have HL := Lib.hid hL
  have HB := Lib.hid hb
  have hlen : ((xs.drop at_).take 4).length = 4 := by rw [List.length_take, List.length_drop]; omega
  have hys : bes (val ((xs.drop at_).take 4)) 4 0 = (xs.drop at_).take 4 := by
    have := bes_val ((xs.drop at_).take 4) (fun x hx => hb x (List.mem_of_mem_drop (List.mem_of_mem_take hx))) (by omega)
    rwa [hlen] at this
  have hv := val_bd 4 ((xs.drop at_).take 4) hlen (fun x hx => hb x (List.mem_of_mem_drop (List.mem_of_mem_take hx)))
  have v0 := hv.1
  have v1 : val ((xs.drop at_).take 4) ≤ 4294967295 := by have := hv.2; have e : (256 : Int) ^ 4 = 4294967296 := (by decide); omega
  have k1 : ¬ ((xs.length - at_ : Nat) : Int) < 4 := by omega
  have k2 : (4 : Int) ≤ ((xs.length - at_ : Nat) : Int) := by omega
  have k3 : (4 : Int) ≤ (c : Int) := by have := hL.room; omega
  have HY := Lib.hid hys
  have HN := Lib.hid hn
  have HLen := Lib.hid hlen
  clear hr hL hb hv hys hn hlen
  go_enter Try.func48, Try.ntmps48
  go_wp2_with fail
  refine (size_calls q 4 _ q0 q1 (by omega)).mono ?_
  rintro e w1 ⟨rfl, b1⟩
  have R1 := Lib.hid (R0.out.below b1)
  have B1 := Lib.hid (B0.out.below b1 B0.out.lt)
  have x1 := B1.out.cell 0
  clear b1
  go_wp2_with fail
  refine (rfour_ok g b cap at_ xs _ R1.out.isR HB.out HN.out).mono ?_
  rintro e w2 ⟨rfl, i2, kp2⟩
  have R2 := Lib.hid (R1.out.kept i2 kp2)
  clear i2 kp2
  go_wp2_with fail
  refine (refnumber_calls (val ((xs.drop at_).take 4)) 4 _ (by omega) (by omega) (by omega)).mono ?_
  rintro e w3 ⟨v3, rfl, r3, b3, _⟩
  rw [HY.out] at r3
  obtain ⟨A3, c3, rfl, _, hR3⟩ := r3.reps encB_len
  have R3 := Lib.hid (R2.out.below b3)
  have Z3 := Lib.hid hR3
  clear b3 r3 hR3
  rw [HLen.out]
  have K : Hid (∀ (d : Nat) (os : Array Obj), Calls Try.prog 41 #[.slice A3 4 c3, .slice A 4 c] (Go.Sort.grow (redrawn w3 d) os) fun e w'' => e = .returned (.bool true) ∧ ∃ p : Regrown, w'' = Go.Sort.grow (redrawn w3 p.d) p.os) := Lib.hid (fun d os => by
    have hW := below_regrown w3 d os
    have := same_calls A3 A c3 c ((xs.drop at_).take 4) (Go.Sort.grow (redrawn w3 d) os) (Z3.out.below hW) (reps_till 4 (HL.out.reps.below (below_then R3.out.bel R3.out.bel.size hW))) (by rw [HLen.out]; decide)
    rw [HLen.out] at this
    exact Calls.regrown_of this)
  go_wp2
  refine wp_region_quiet_below (by kernel_rfl) (by kernel_rfl) ?_
  repeat (go_big_quiet_step (exact K.out _ _))
  refine wpQuiet_nil ?_
  rintro _ ⟨⟨nq, osq⟩, rfl⟩
  go_wp2
  go_ret2
  exact ⟨Aim A c 4, c - 4, by rw [Nat.sub_add_eq]; rfl, HL.out.on 4 (by have := HN.out; omega), R3.out.below (below_regrown w3 nq osq)⟩
end Go.Proofs.Ytfbjmaajdblbfaa.Oct
