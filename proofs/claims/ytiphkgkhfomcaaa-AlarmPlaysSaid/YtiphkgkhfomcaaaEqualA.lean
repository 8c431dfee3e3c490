/- Chapter 13 (alarm): equal: is a clock the document's? -/
import Derived.Test.YtiphkgkhfomcaaaDoesD
import Derived.Test.YtiphkgkhfomcaaaRegrown
import Derived.Lib.QuietBelow
set_option linter.unusedSimpArgs false
set_option linter.unusedVariables false
attribute [local go_sem ↓] Go.wp_at_zero Go.wp_at_succ
namespace Go.Proofs.Ytiphkgkhfomcaaa.Alarm
open Go.BigFrame Go.RowKit Go.OpenShut Go.Proofs.Ytiphkgkhfomcaaa.Aid Go.Proofs.Ytiphkgkhfomcaaa.DMap Go.Proofs.Ytiphkgkhfomcaaa.Heap
/-- What equal reads. -/
structure Eq2 (w : World) (B : Nat → Prop) (C H : Nat) (c : Ck) (v : Value) : Prop where
  clk : Clk w B C c
  row : RowOf 3 1 encI w v c.A
  box : Blk w H 44 #[.int .i64 c.now, v]
theorem Eq2.below {w w' : World} {B : Nat → Prop} {C H : Nat} {c : Ck} {v : Value} (h : Eq2 w B C H c v) (hb : Below w.heap.size w w') : Eq2 w' B C H c v := ⟨h.clk.below hb, h.row.below hb, h.box.below hb h.box.lt⟩
set_option maxRecDepth 100000 in
set_option maxHeartbeats 4000000 in
theorem equal_calls (B : Nat → Prop) (C : Nat) (c : Ck) (v : Value) (w : World) (h : Clk w B C c) (hr : RowOf 3 1 encI w v c.A) : Calls Try.prog 24 #[.pointer (some ⟨C, 0, Option.none⟩), refV c.now v] w (Gives w (.bool true)) := by
  have hlen := h.ok.len
  have hb : Below w.heap.size w (w.alloc (.cells #[.int .i64 c.now, v] 44)) := (Below.refl _ w).alloc (Nat.le_refl _) _
  obtain ⟨Av, cv, rfl, _⟩ := hr.slice
  have S0 := Lib.hid (And.intro hb (show Eq2 (w.alloc (.cells #[.int .i64 c.now, .slice Av c.A.length cv] 44)) B C w.heap.size c (.slice Av c.A.length cv) from ⟨h.below hb, hr.below hb, Blk.new w 44 _⟩))
  have hs1 : (w.alloc (.cells #[.int .i64 c.now, .slice Av c.A.length cv] 44)).heap.size = w.heap.size + 1 := World.size_alloc _ _
  clear hb h hr
  go_enter Try.func24, Try.ntmps24
  go_upto_region 1 with fail
  revert S0 hs1
  generalize w.alloc (.cells #[.int .i64 c.now, .slice Av c.A.length cv] 44) = w1
  intro S0 hs1
  have hs1 := Lib.hid hs1
  generalize hH : w.heap.size = H at *
  have HH := Lib.hid hH
  clear hH
  obtain ⟨n, hn⟩ : ∃ n, c.A.length = n := ⟨_, rfl⟩
  have HN := Lib.hid hn
  rw [hn] at S0 hlen
  rw [hn]
  have go_on : True := trivial
  by_cases hbest : best c.A < 0
  · have hbe := (best_none hbest).1
    have KX := Lib.hid (next_none B C c w1 S0.out.2.clk hbest)
    go_wp2_with fail
    refine KX.out.mono ?_
    rintro e w2 ⟨rfl, b2⟩
    have S2 := Lib.hid (S0.out.2.below b2)
    have B2 := Lib.hid (below_then S0.out.1 (by have := hs1.out; omega) b2)
    have KR := Lib.hid (rnext_calls c.now (.slice Av n cv) c.A w2 S2.out.row (by omega))
    rw [hbe] at KR
    have x0 := S2.out.box.cell 0
    have x1 := S2.out.box.cell 1
    simp at x0 x1
    clear b2 KX S0
    go_wp2_with fail
    refine KR.out.mono ?_
    rintro e w3 ⟨rfl, b3⟩
    have S3 := Lib.hid (S2.out.below b3)
    have B3 := Lib.hid (below_then B2.out (by have := B2.out.size; have := HH.out; have := S2.out.box.lt; omega) b3)
    clear b3 KR S2 B2 x0 x1
    go_upto_region 5 with fail
    clear hbest hbe
    go_wp2
    go_loopw [9] (fun iv wr => ∃ i : Int, iv = .int .i64 i ∧ -1 ≤ i ∧ i ≤ (n : Int) + 1 ∧ Hid (Eq2 wr B C H c (.slice Av n cv) ∧ Below H w wr)) (fun iv _ => ((n : Int) + 1 - intOf iv).toNat)
    case atStart => exact ⟨-1, rfl, by omega, by omega, Lib.hid ⟨S3.out, B3.out⟩⟩
    case round =>
      as_aux_lemma =>
      obtain ⟨i, rfl, hi0, hi1, hS⟩ := hrel
      clear S3 B3
      have x0 := hS.out.1.box.cell 0
      have x1 := hS.out.1.box.cell 1
      simp at x0 x1
      by_cases hin : i ≤ (n : Int)
      · by_cases hon : isOn c.A i
        · obtain ⟨k, rfl⟩ := Int.eq_ofNat_of_zero_le hon.1
          have hk : 0 ≤ at_ c.A k := by simpa using hon.2
          have hkl := at_lt hk
          rw [HN.out] at hkl
          obtain ⟨a2, ha2⟩ : ∃ a2, at_ c.A k = a2 := ⟨_, rfl⟩
          have KA := Lib.hid (at_yes B C c k wr hS.out.1.clk hk)
          rw [ha2] at KA
          have KI := Lib.hid (is_calls c.now (.slice Av n cv) c.A k wr hS.out.1.row)
          rw [decide_eq_true hon] at KI
          obtain ⟨bq, hbq⟩ := row3_some hS.out.1.row (by rw [HN.out]; omega)
          subst hbq
          have p2 : (0 : Int) ≤ (k : Int) := by omega
          have p3 : (k : Int) < (n : Int) := by omega
          go_wp2_with fail
          refine KA.out.mono ?_
          rintro e w5 ⟨rfl, rfl⟩
          go_wp2_with fail
          refine KI.out.mono ?_
          rintro e w6 ⟨rfl, b6⟩
          have S6 := Lib.hid (hS.out.1.below b6)
          have B6 := Lib.hid (below_then hS.out.2 (by have := hS.out.1.box.lt; omega) b6)
          have z1 := row3_cell S6.out.row k (by rw [HN.out]; omega)
          rw [ha2] at z1
          have x0 := S6.out.box.cell 0
          have x1 := S6.out.box.cell 1
          simp at x0 x1
          clear b6 KA KI ha2 hk hon
          go_wp2
          go_roundw
          case rel => exact ⟨(k : Int) + 1, by go_num, by omega, by omega, Lib.hid ⟨S6.out, B6.out⟩⟩
          case measure => simp [intOf]; omega
        · have KA := Lib.hid (at_not B C c i wr hS.out.1.clk ⟨by omega, by omega⟩ (by unfold isOn at hon; omega))
          have KI := Lib.hid (is_calls c.now (.slice Av n cv) c.A i wr hS.out.1.row)
          rw [decide_eq_false hon] at KI
          clear hon
          go_wp2_with fail
          refine KA.out.mono ?_
          rintro e w5 ⟨rfl, rfl⟩
          go_wp2_with fail
          refine KI.out.mono ?_
          rintro e w6 ⟨rfl, b6⟩
          have S6 := Lib.hid (hS.out.1.below b6)
          have B6 := Lib.hid (below_then hS.out.2 (by have := hS.out.1.box.lt; omega) b6)
          clear b6 KA KI
          go_wp2
          go_roundw
          case rel => exact ⟨i + 1, by go_num, by omega, by omega, Lib.hid ⟨S6.out, B6.out⟩⟩
          case measure => simp [intOf]; omega
      · have hwl := hS.out.1.box.lt
        have NW : Hid (∀ d os, Calls Try.prog 17 #[.pointer (some ⟨C, 0, Option.none⟩)] (Go.Sort.grow (redrawn wr d) os) fun e w'' => e = .returned (.int .i64 c.now) ∧ ∃ p : Regrown, w'' = Go.Sort.grow (redrawn wr p.d) p.os) := Lib.hid (fun d os => regrown_same (now_calls B C c _ (hS.out.1.clk.below (below_regrown wr d os))))
        have LN : Hid (∀ d os, Calls Try.prog 23 #[.pointer (some ⟨C, 0, Option.none⟩)] (Go.Sort.grow (redrawn wr d) os) fun e w'' => e = .returned (.int .i64 (cnt c.A)) ∧ ∃ p : Regrown, w'' = Go.Sort.grow (redrawn wr p.d) p.os) := Lib.hid (fun d os => regrown_same (len_calls B C c _ (hS.out.1.clk.below (below_regrown wr d os))))
        have RL : Hid (∀ d os, Calls Try.prog 49 #[refV c.now (.slice Av n cv)] (Go.Sort.grow (redrawn wr d) os) fun e w'' => e = .returned (.int .i64 (cnt c.A)) ∧ ∃ p : Regrown, w'' = Go.Sort.grow (redrawn wr p.d) p.os) := Lib.hid (fun d os => Calls.regrown_of (rlen13_calls c.now (.slice Av n cv) c.A _ (hS.out.1.row.below (below_regrown wr d os)) (by rw [HN.out]; exact hlen)))
        have x0 : ∀ d os, (Go.Sort.grow (redrawn wr d) os).cell? ⟨H, 0, Option.none⟩ = some (.int .i64 c.now) := fun d os => ((below_regrown wr d os).cell (p := ⟨H, 0, Option.none⟩) hwl).trans x0
        have x1 : ∀ d os, (Go.Sort.grow (redrawn wr d) os).cell? ⟨H, 1, Option.none⟩ = some (.slice Av n cv) := fun d os => ((below_regrown wr d os).cell (p := ⟨H, 1, Option.none⟩) hwl).trans x1
        have hnn : (c.now == c.now) = true := by simp
        have fin := Lib.hid (fun d os => below_then hS.out.2 (by omega) (below_regrown wr d os))
        generalize cnt c.A = z at *
        go_wp2
        refine wp_region_quiet_below (by kernel_rfl) (by kernel_rfl) ?_
        repeat (go_big_quiet_step (first | exact NW.out _ _ | exact LN.out _ _ | exact RL.out _ _))
        refine wpQuiet_nil ?_
        rintro _ ⟨⟨nq, osq⟩, rfl⟩
        go_wp2
        go_ret
        exact ⟨rfl, by have := fin.out nq osq; rw [← HH.out] at this; exact this⟩
  · obtain ⟨b, hbe, hbl, hb0, _⟩ := best_some hbest
    obtain ⟨a, ha⟩ : ∃ a, at_ c.A b = a := ⟨_, rfl⟩
    have KX := Lib.hid (next_some B C c b w1 S0.out.2.clk hbe)
    rw [ha] at KX
    go_wp2_with fail
    refine KX.out.mono ?_
    rintro e w2 ⟨rfl, b2⟩
    have S2 := Lib.hid (S0.out.2.below b2)
    have B2 := Lib.hid (below_then S0.out.1 (by have := hs1.out; omega) b2)
    have KR := Lib.hid (rnext_calls c.now (.slice Av n cv) c.A w2 S2.out.row (by omega))
    rw [hbe] at KR
    have x0 := S2.out.box.cell 0
    have x1 := S2.out.box.cell 1
    simp at x0 x1
    clear b2 KX S0
    go_wp2_with fail
    refine KR.out.mono ?_
    rintro e w3 ⟨rfl, b3⟩
    have S3 := Lib.hid (S2.out.below b3)
    have B3 := Lib.hid (below_then B2.out (by have := B2.out.size; have := HH.out; have := S2.out.box.lt; omega) b3)
    clear b3 KR S2 B2 x0 x1
    obtain ⟨bb, rfl⟩ := row3_some S3.out.row (by omega)
    have x0 := S3.out.box.cell 0
    have x1 := S3.out.box.cell 1
    have z0 := row3_cell S3.out.row b hbl
    simp at x0 x1
    rw [ha] at z0
    have p0 : (0 : Int) ≤ (b : Int) := by omega
    have p1 : (b : Int) < (n : Int) := by omega
    clear hb0 ha hbe hbest
    go_upto_region 5 with fail
    clear x0 x1 z0
    go_wp2
    go_loopw [9] (fun iv wr => ∃ i : Int, iv = .int .i64 i ∧ -1 ≤ i ∧ i ≤ (n : Int) + 1 ∧ Hid (Eq2 wr B C H c (.slice (some ⟨bb, 0, Option.none⟩) n cv) ∧ Below H w wr)) (fun iv _ => ((n : Int) + 1 - intOf iv).toNat)
    case atStart => exact ⟨-1, rfl, by omega, by omega, Lib.hid ⟨S3.out, B3.out⟩⟩
    case round =>
      as_aux_lemma =>
      obtain ⟨i, rfl, hi0, hi1, hS⟩ := hrel
      clear S3 B3
      have x0 := hS.out.1.box.cell 0
      have x1 := hS.out.1.box.cell 1
      simp at x0 x1
      by_cases hin : i ≤ (n : Int)
      · by_cases hon : isOn c.A i
        · obtain ⟨k, rfl⟩ := Int.eq_ofNat_of_zero_le hon.1
          have hk : 0 ≤ at_ c.A k := by simpa using hon.2
          have hkl := at_lt hk
          rw [HN.out] at hkl
          obtain ⟨a2, ha2⟩ : ∃ a2, at_ c.A k = a2 := ⟨_, rfl⟩
          have KA := Lib.hid (at_yes B C c k wr hS.out.1.clk hk)
          rw [ha2] at KA
          have KI := Lib.hid (is_calls c.now (.slice (some ⟨bb, 0, Option.none⟩) n cv) c.A k wr hS.out.1.row)
          rw [decide_eq_true hon] at KI
          obtain ⟨bq, hbq⟩ := row3_some hS.out.1.row (by rw [HN.out]; omega)
          obtain rfl : bb = bq := by simpa using hbq
          have p2 : (0 : Int) ≤ (k : Int) := by omega
          have p3 : (k : Int) < (n : Int) := by omega
          go_wp2_with fail
          refine KA.out.mono ?_
          rintro e w5 ⟨rfl, rfl⟩
          go_wp2_with fail
          refine KI.out.mono ?_
          rintro e w6 ⟨rfl, b6⟩
          have S6 := Lib.hid (hS.out.1.below b6)
          have B6 := Lib.hid (below_then hS.out.2 (by have := hS.out.1.box.lt; omega) b6)
          have z1 := row3_cell S6.out.row k (by rw [HN.out]; omega)
          rw [ha2] at z1
          have x0 := S6.out.box.cell 0
          have x1 := S6.out.box.cell 1
          simp at x0 x1
          clear b6 KA KI ha2 hk hon
          go_wp2
          go_roundw
          case rel => exact ⟨(k : Int) + 1, by go_num, by omega, by omega, Lib.hid ⟨S6.out, B6.out⟩⟩
          case measure => simp [intOf]; omega
        · have KA := Lib.hid (at_not B C c i wr hS.out.1.clk ⟨by omega, by omega⟩ (by unfold isOn at hon; omega))
          have KI := Lib.hid (is_calls c.now (.slice (some ⟨bb, 0, Option.none⟩) n cv) c.A i wr hS.out.1.row)
          rw [decide_eq_false hon] at KI
          clear hon
          go_wp2_with fail
          refine KA.out.mono ?_
          rintro e w5 ⟨rfl, rfl⟩
          go_wp2_with fail
          refine KI.out.mono ?_
          rintro e w6 ⟨rfl, b6⟩
          have S6 := Lib.hid (hS.out.1.below b6)
          have B6 := Lib.hid (below_then hS.out.2 (by have := hS.out.1.box.lt; omega) b6)
          clear b6 KA KI
          go_wp2
          go_roundw
          case rel => exact ⟨i + 1, by go_num, by omega, by omega, Lib.hid ⟨S6.out, B6.out⟩⟩
          case measure => simp [intOf]; omega
      · have hwl := hS.out.1.box.lt
        have NW : Hid (∀ d os, Calls Try.prog 17 #[.pointer (some ⟨C, 0, Option.none⟩)] (Go.Sort.grow (redrawn wr d) os) fun e w'' => e = .returned (.int .i64 c.now) ∧ ∃ p : Regrown, w'' = Go.Sort.grow (redrawn wr p.d) p.os) := Lib.hid (fun d os => regrown_same (now_calls B C c _ (hS.out.1.clk.below (below_regrown wr d os))))
        have LN : Hid (∀ d os, Calls Try.prog 23 #[.pointer (some ⟨C, 0, Option.none⟩)] (Go.Sort.grow (redrawn wr d) os) fun e w'' => e = .returned (.int .i64 (cnt c.A)) ∧ ∃ p : Regrown, w'' = Go.Sort.grow (redrawn wr p.d) p.os) := Lib.hid (fun d os => regrown_same (len_calls B C c _ (hS.out.1.clk.below (below_regrown wr d os))))
        have RL : Hid (∀ d os, Calls Try.prog 49 #[refV c.now (.slice (some ⟨bb, 0, Option.none⟩) n cv)] (Go.Sort.grow (redrawn wr d) os) fun e w'' => e = .returned (.int .i64 (cnt c.A)) ∧ ∃ p : Regrown, w'' = Go.Sort.grow (redrawn wr p.d) p.os) := Lib.hid (fun d os => Calls.regrown_of (rlen13_calls c.now (.slice (some ⟨bb, 0, Option.none⟩) n cv) c.A _ (hS.out.1.row.below (below_regrown wr d os)) (by rw [HN.out]; exact hlen)))
        have x0 : ∀ d os, (Go.Sort.grow (redrawn wr d) os).cell? ⟨H, 0, Option.none⟩ = some (.int .i64 c.now) := fun d os => ((below_regrown wr d os).cell (p := ⟨H, 0, Option.none⟩) hwl).trans x0
        have x1 : ∀ d os, (Go.Sort.grow (redrawn wr d) os).cell? ⟨H, 1, Option.none⟩ = some (.slice (some ⟨bb, 0, Option.none⟩) n cv) := fun d os => ((below_regrown wr d os).cell (p := ⟨H, 1, Option.none⟩) hwl).trans x1
        have hnn : (c.now == c.now) = true := by simp
        have fin := Lib.hid (fun d os => below_then hS.out.2 (by omega) (below_regrown wr d os))
        generalize cnt c.A = z at *
        go_wp2
        refine wp_region_quiet_below (by kernel_rfl) (by kernel_rfl) ?_
        repeat (go_big_quiet_step (first | exact NW.out _ _ | exact LN.out _ _ | exact RL.out _ _))
        refine wpQuiet_nil ?_
        rintro _ ⟨⟨nq, osq⟩, rfl⟩
        go_wp2
        go_ret
        exact ⟨rfl, by have := fin.out nq osq; rw [← HH.out] at this; exact this⟩
end Go.Proofs.Ytiphkgkhfomcaaa.Alarm
