/- Chapter 13 (alarm): whatever is set, stopped, and goes by: the walk. -/
import Derived.Test.YtiphkgkhfomcaaaPlaysP
set_option linter.unusedSimpArgs false
set_option linter.unusedVariables false
attribute [local go_sem ↓] Go.wp_at_zero Go.wp_at_succ
namespace Go.Proofs.Ytiphkgkhfomcaaa.Alarm
open Go.BigFrame Go.RowKit Go.OpenShut Go.Proofs.Ytiphkgkhfomcaaa.Aid Go.Proofs.Ytiphkgkhfomcaaa.DMap Go.Proofs.Ytiphkgkhfomcaaa.Heap
theorem plays_bad (nm : Int) (B : Value) (w : World) (hn : nm < 1 ∨ 64 < nm) : Calls Try.prog 5 #[.int .i64 nm, B] w (Gives w (.bool true)) := by
  rcases (by omega : nm < 1 ∨ (¬ nm < 1 ∧ 64 < nm)) with h1 | ⟨h1, h2⟩
  all_goals
    have NB := Lib.hid (fun W => new_bad nm W hn)
    clear hn
    go_enter Try.func5, Try.ntmps5
    go_wp2_with fail
    refine (known_calls w).mono ?_
    rintro e w1 ⟨rfl, b1⟩
    have B1 := Lib.hid b1
    clear b1
    go_wp2_with fail
    refine (NB.out _).mono ?_
    rintro e w2 ⟨rfl, rfl⟩
    go_wp2_with fail
    refine (known_calls _).mono ?_
    rintro e w2 ⟨rfl, b2⟩
    have B2 := Lib.hid (below_then B1.out B1.out.size b2)
    clear b2
    go_wp2
    go_ret
    exact ⟨rfl, B2.out⟩
set_option maxRecDepth 100000 in
set_option maxHeartbeats 8000000 in
theorem plays_walk (nm : Nat) (B : Option Addr) (cap : Nat) (ops : List OpV) (w : World) (hn1 : 1 ≤ nm) (hn2 : nm ≤ 64) (hB : Reps w B 3 encO ops) (ho : ∀ o ∈ ops, OpOk o) (hl : ops.length ≤ 9223372036854775807) :
    Calls Try.prog 5 #[.int .i64 nm, .slice B ops.length cap] w (Gives w (.bool true)) := by
  have HB := Lib.hid hB
  have HO := Lib.hid ho
  clear hB ho
  have q0 : ¬ ((nm : Int) < 1) := by omega
  have q1 : ¬ ((64 : Int) < (nm : Int)) := by omega
  go_enter Try.func5, Try.ntmps5
  go_wp2_with fail
  refine (known_calls w).mono ?_
  rintro e w1 ⟨rfl, b1⟩
  have B1 := Lib.hid b1
  clear b1
  go_wp2_with fail
  refine (new_has nm w w1 hn1 hn2 B1.out).mono ?_
  rintro e w2 ⟨C, rfl, h2⟩
  have H2 := Lib.hid h2
  clear h2
  go_wp2_with fail
  refine (rnew_calls nm w2 (by omega)).mono ?_
  rintro e w3 ⟨v0, rfl, r3⟩
  obtain ⟨Av0, nv0, cv0, rfl⟩ := r3.1.some_slice
  have S0 : ∃ Bc, PlS w (w3.alloc (.cells #[.int .i64 0, .slice Av0 nv0 cv0] 44)) C w3.heap.size Bc (fresh nm) (.slice Av0 nv0 cv0) := by
    obtain ⟨Bc, a1, a2, a3⟩ := H2.out
    have ba : Below w3.heap.size w3 (w3.alloc (.cells #[.int .i64 0, .slice Av0 nv0 cv0] 44)) := (Below.refl _ w3).alloc (Nat.le_refl _) _
    have b23 := r3.2.1
    have s2 := a3.size
    have s3 := b23.size
    refine ⟨Bc, (a1.below b23).below ba, r3.1.below ba, Blk.new w3 44 _, a2, fun e => ?_, by omega, fun k hk => ⟨fun e => ?_, ?_, ?_⟩, below_then (below_then a3 s2 b23) (by omega) ba⟩
    · have := a1.lt _ e; omega
    · have := a1.lt _ e; have := r3.2.2 k hk; omega
    · have := r3.2.2 k hk; omega
    · have := r3.1.lt k hk; omega
  clear r3
  go_upto_region 9 with fail
  revert S0
  generalize w3.alloc (.cells #[.int .i64 0, .slice Av0 nv0 cv0] 44) = w4
  generalize w3.heap.size = G
  intro S0
  obtain ⟨Bc0, S0⟩ := S0
  have S0 := Lib.hid S0
  clear H2 B1
  go_wp2
  go_loopw [8] (fun iv wr => ∃ (i : Nat) (Bc : Nat → Prop) (c : Ck) (v : Value), iv = .int .i64 i ∧ i ≤ 200 ∧ i ≤ ops.length ∧ Hid (PlS w wr C G Bc c v)) (fun iv _ => 200 - (intOf iv).toNat)
  case atStart => exact ⟨0, Bc0, fresh nm, _, rfl, by omega, by omega, S0⟩
  case round =>
    obtain ⟨i, Bc, c, v, rfl, hi200, hil, hP⟩ := hrel
    clear S0
    by_cases hlt : i < 200 ∧ i < ops.length
    · as_aux_lemma =>
      obtain ⟨o, hoi⟩ : ∃ o, ops[i]? = some o := ⟨_, List.getElem?_eq_getElem hlt.2⟩
      obtain ⟨oa, oe, hol0, hc0, hc1, hc2⟩ := rops HB.out i o hoi
      subst oe
      obtain ⟨oi1, oi2, oi3, oi4⟩ := HO.out o (List.mem_of_getElem? hoi)
      have hi1 : (i : Int) < 200 := by omega
      have hi2 : (i : Int) < (ops.length : Int) := by omega
      have hi3 : (0 : Int) ≤ (i : Int) := by omega
      obtain ⟨ok, onm, on⟩ := o
      simp only at oi1 oi2 oi3 oi4 hc0 hc1 hc2
      have hob := add_block oa (i * 3)
      rw [hob] at hc1 hc2
      have AT : Hid (∀ W, Below w.heap.size w W → W.cell? (oa.add (i * 3)) = some (.int .u8 ok) ∧ W.cell? ⟨oa.block, (oa.add (i * 3)).off + 1, Option.none⟩ = some (.int .i64 onm) ∧ W.cell? ⟨oa.block, (oa.add (i * 3)).off + 2, Option.none⟩ = some (.int .i64 on)) :=
        Lib.hid (fun W hW => ⟨(hW.cell (p := oa.add (i * 3)) (by rw [hob]; exact hol0)).trans hc0, (hW.cell (p := ⟨oa.block, (oa.add (i * 3)).off + 1, Option.none⟩) hol0).trans hc1, (hW.cell (p := ⟨oa.block, (oa.add (i * 3)).off + 2, Option.none⟩) hol0).trans hc2⟩)
      have HOL := Lib.hid hol0
      clear hc0 hc1 hc2 hol0
      obtain ⟨Av, nv, cv, rfl⟩ := hP.out.row.some_slice
      have x0 := hP.out.box.cell 0
      have x1 := hP.out.box.cell 1
      simp at x0 x1
      have KC := Lib.hid (fun (WX : World) (hW : Below wr.heap.size wr WX) => clone_calls Bc C c WX (hP.out.clk.below hW))
      have AFT := Lib.hid (fun (WX w4 : World) (hW : Below wr.heap.size wr WX) (b4 : Below WX.heap.size WX w4) => show w4.cell? ⟨G, 0, Option.none⟩ = some (.int .i64 c.now) ∧ w4.cell? ⟨G, 1, Option.none⟩ = some (.slice Av nv cv) from by
        have y := hP.out.box.below (below_then hW hW.size b4) hP.out.box.lt
        have y0 := y.cell 0
        have y1 := y.cell 1
        simp at y0 y1
        exact ⟨y0, y1⟩)
      have BX := Lib.hid (Blk.new wr 44 #[.int .i64 0, nilS])
      have nw1 : ¬ wr.heap.size = G := by have := hP.out.box.lt; omega
      have nw2 : ¬ G = wr.heap.size := by omega
      go_upto_region 12 with fail
      go_region_held3 (fun W => W.cell? ⟨G, 0, Option.none⟩ = some (.int .i64 c.now) ∧ W.cell? ⟨G, 1, Option.none⟩ = some (.slice Av nv cv)) (go_keep) ((go_at_call 21; refine (KC.out _ (by first | exact below_drew (Below.refl _ _) | exact below_drew (below_drew (Below.refl _ _)) | exact below_drew ((Below.refl _ _).alloc (Nat.le_refl _) _) | exact (Below.refl _ _).alloc (Nat.le_refl _) _ | exact (below_drew (Below.refl _ _)).alloc (Nat.le_refl _) _ | exact below_drew ((below_drew (Below.refl _ _)).alloc (Nat.le_refl _) _) | exact below_drew (below_drew ((Below.refl _ _).alloc (Nat.le_refl _) _)))).mono ?_; rintro e w5 ⟨D, Bd, rfl, k1, k2, b4⟩; obtain ⟨v0, v1⟩ := AFT.out _ _ (by first | exact below_drew (Below.refl _ _) | exact below_drew (below_drew (Below.refl _ _)) | exact below_drew ((Below.refl _ _).alloc (Nat.le_refl _) _) | exact (Below.refl _ _).alloc (Nat.le_refl _) _ | exact (below_drew (Below.refl _ _)).alloc (Nat.le_refl _) _ | exact below_drew ((below_drew (Below.refl _ _)).alloc (Nat.le_refl _) _) | exact below_drew (below_drew ((Below.refl _ _).alloc (Nat.le_refl _) _))) b4; have K4 := Lib.hid (And.intro k1 (And.intro k2 b4)); (try (have BX4 : Blk w5 wr.heap.size 44 #[.int .i64 0, nilS] := (b4.block wr.heap.size (by simp)).trans BX.out; have t0 : w5.cell? ⟨wr.heap.size, 0, Option.none⟩ = some (.int .i64 0) := BX4.cell 0; have t1 : w5.cell? ⟨wr.heap.size, 1, Option.none⟩ = some nilS := BX4.cell 1; have tf := BX4.frozen; have HX4 := Lib.hid BX4; clear BX4)); clear k1 k2 b4))
      all_goals
        first
        | (have tt := t0
           clear tt
           have Q := Lib.hid (q12_set hP.out (by first | exact below_drew (Below.refl _ _) | exact below_drew (below_drew (Below.refl _ _)) | exact below_drew ((Below.refl _ _).alloc (Nat.le_refl _) _) | exact (Below.refl _ _).alloc (Nat.le_refl _) _ | exact (below_drew (Below.refl _ _)).alloc (Nat.le_refl _) _ | exact below_drew ((below_drew (Below.refl _ _)).alloc (Nat.le_refl _) _) | exact below_drew (below_drew ((Below.refl _ _).alloc (Nat.le_refl _) _))) (by simp) HX4.out K4.out.2.2 K4.out.1 K4.out.2.1)
           revert Q
           generalize (w5.setCell ⟨wr.heap.size, 0, Option.none⟩ (.int .i64 c.now)).setCell ⟨wr.heap.size, 1, Option.none⟩ (.slice Av nv cv) = w6
           generalize wr.heap.size = Y
           intro Q)
        | (have Q := Lib.hid (q12_new hP.out (by first | exact below_drew (Below.refl _ _) | exact below_drew (below_drew (Below.refl _ _)) | exact below_drew ((Below.refl _ _).alloc (Nat.le_refl _) _) | exact (Below.refl _ _).alloc (Nat.le_refl _) _ | exact (below_drew (Below.refl _ _)).alloc (Nat.le_refl _) _ | exact below_drew ((below_drew (Below.refl _ _)).alloc (Nat.le_refl _) _) | exact below_drew (below_drew ((Below.refl _ _).alloc (Nat.le_refl _) _))) K4.out.2.2 K4.out.1 K4.out.2.1)
           revert Q
           generalize w5.heap.size = Y
           generalize w5.alloc _ = w6
           intro Q)
        (try (rename_i hH0; clear hH0))
        clear KC AFT BX nw1 nw2 K4 v0 v1 x0 x1
        try clear t0 t1 tf HX4
        have x0 := Q.out.1.box.cell 0
        have x1 := Q.out.1.box.cell 1
        simp at x0 x1
        obtain ⟨d0, d1, d2⟩ := AT.out w6 Q.out.1.bel
        have KD := Lib.hid (fun (WX : World) (hW : Below w6.heap.size w6 WX) => does_all Bc C c (.slice Av nv cv) ok onm on WX (Q.out.1.clk.below hW) (Q.out.1.row.below hW) (fun k hk => (Q.out.1.vB k hk).1) oi1 oi3)
        have HBl := Lib.hid (fun k (hk : Bc k) => Q.out.1.clk.lt k hk)
        have AFT := Lib.hid (fun (WX w7 : World) (hW : Below w6.heap.size w6 WX) (k5 : Kp Bc WX w7) => show (w7.cell? ⟨G, 0, Option.none⟩ = some (.int .i64 c.now) ∧ w7.cell? ⟨G, 1, Option.none⟩ = some (.slice Av nv cv)) ∧ (w7.cell? (oa.add (i * 3)) = some (.int .u8 ok) ∧ w7.cell? ⟨oa.block, (oa.add (i * 3)).off + 1, Option.none⟩ = some (.int .i64 onm) ∧ w7.cell? ⟨oa.block, (oa.add (i * 3)).off + 2, Option.none⟩ = some (.int .i64 on)) from by
          have PX := Q.out.1.below hW
          have y : Blk w7 G 44 #[.int .i64 c.now, .slice Av nv cv] := (k5.block G PX.box.lt PX.gB).trans PX.box
          have y0 := y.cell 0
          have y1 := y.cell 1
          simp at y0 y1
          exact ⟨⟨y0, y1⟩, AT.out w7 (kp_below PX.bel PX.bB k5)⟩)
        have BX := Lib.hid (Blk.new w6 44 #[.int .i64 0, nilS])
        have hsw := Q.out.1.bel.size
        have hol := HOL.out
        have nw1 : ¬ w6.heap.size = G := by have := Q.out.1.box.lt; omega
        have nw2 : ¬ G = w6.heap.size := by omega
        have nw3 : ¬ w6.heap.size = oa.block := by omega
        have nw4 : ¬ oa.block = w6.heap.size := by omega
        clear hsw hol
        go_upto_region 13 with fail
        go_region_held3 (fun W => W.cell? ⟨G, 0, Option.none⟩ = some (.int .i64 c.now) ∧ W.cell? ⟨G, 1, Option.none⟩ = some (.slice Av nv cv) ∧ W.cell? (oa.add (i * 3)) = some (.int .u8 ok) ∧ W.cell? ⟨oa.block, (oa.add (i * 3)).off + 1, Option.none⟩ = some (.int .i64 onm) ∧ W.cell? ⟨oa.block, (oa.add (i * 3)).off + 2, Option.none⟩ = some (.int .i64 on)) (go_keep) ((go_at_call 19; refine (KD.out _ (by first | exact below_drew (Below.refl _ _) | exact below_drew (below_drew (Below.refl _ _)) | exact below_drew ((Below.refl _ _).alloc (Nat.le_refl _) _) | exact (Below.refl _ _).alloc (Nat.le_refl _) _ | exact (below_drew (Below.refl _ _)).alloc (Nat.le_refl _) _ | exact below_drew ((below_drew (Below.refl _ _)).alloc (Nat.le_refl _) _) | exact below_drew (below_drew ((Below.refl _ _).alloc (Nat.le_refl _) _)))).mono ?_; rintro e w7 ⟨v', B', c', A', bv, rfl, k1, k2, k3, k4, k5, k6⟩; obtain ⟨rfl, rfl⟩ := k6; obtain ⟨A6, n6, c6, rfl⟩ := k2.some_slice; obtain ⟨⟨v0, v1⟩, v2, v3, v4⟩ := AFT.out _ _ (by first | exact below_drew (Below.refl _ _) | exact below_drew (below_drew (Below.refl _ _)) | exact below_drew ((Below.refl _ _).alloc (Nat.le_refl _) _) | exact (Below.refl _ _).alloc (Nat.le_refl _) _ | exact (below_drew (Below.refl _ _)).alloc (Nat.le_refl _) _ | exact below_drew ((below_drew (Below.refl _ _)).alloc (Nat.le_refl _) _) | exact below_drew (below_drew ((Below.refl _ _).alloc (Nat.le_refl _) _))) k5; have K7 := Lib.hid (And.intro k1 (And.intro k2 (And.intro k3 (And.intro k4 k5)))); (try (have BX7 : Blk w7 w6.heap.size 44 #[.int .i64 0, nilS] := (k5.block w6.heap.size (by simp) (fun e => absurd (HBl.out _ e) (Nat.lt_irrefl _))).trans BX.out; have t0 : w7.cell? ⟨w6.heap.size, 0, Option.none⟩ = some (.int .i64 0) := BX7.cell 0; have t1 : w7.cell? ⟨w6.heap.size, 1, Option.none⟩ = some nilS := BX7.cell 1; have tf := BX7.frozen; have HX7 := Lib.hid BX7; clear BX7)); clear k1 k2 k3 k4 k5))
        all_goals
          first
          | (have tt := t0
             clear tt
             have R := Lib.hid (q13_set Q.out (by first | exact below_drew (Below.refl _ _) | exact below_drew (below_drew (Below.refl _ _)) | exact below_drew ((Below.refl _ _).alloc (Nat.le_refl _) _) | exact (Below.refl _ _).alloc (Nat.le_refl _) _ | exact (below_drew (Below.refl _ _)).alloc (Nat.le_refl _) _ | exact below_drew ((below_drew (Below.refl _ _)).alloc (Nat.le_refl _) _) | exact below_drew (below_drew ((Below.refl _ _).alloc (Nat.le_refl _) _))) (by simp) HX7.out K7.out.1 K7.out.2.1 K7.out.2.2.1 K7.out.2.2.2.1 K7.out.2.2.2.2)
             revert R
             generalize (w7.setCell ⟨w6.heap.size, 0, Option.none⟩ (.int .i64 c'.now)).setCell ⟨w6.heap.size, 1, Option.none⟩ (.slice A6 n6 c6) = w8
             generalize w6.heap.size = X
             intro R)
          | (have R := Lib.hid (q13_new Q.out (by first | exact below_drew (Below.refl _ _) | exact below_drew (below_drew (Below.refl _ _)) | exact below_drew ((Below.refl _ _).alloc (Nat.le_refl _) _) | exact (Below.refl _ _).alloc (Nat.le_refl _) _ | exact (below_drew (Below.refl _ _)).alloc (Nat.le_refl _) _ | exact below_drew ((below_drew (Below.refl _ _)).alloc (Nat.le_refl _) _) | exact below_drew (below_drew ((Below.refl _ _).alloc (Nat.le_refl _) _))) K7.out.1 K7.out.2.1 K7.out.2.2.1 K7.out.2.2.2.1 K7.out.2.2.2.2)
             revert R
             generalize w7.heap.size = X
             generalize w7.alloc _ = w8
             intro R)
          (try (rename_i hH0; clear hH0))
          clear KD AFT BX nw1 nw2 nw3 nw4 K7 v0 v1 v2 v3 v4 x0 x1 d0 d1 d2 Q HBl
          try clear t0 t1 tf HX7
          obtain ⟨z0, z1, zf, y0, y1⟩ := q13_cells R.out
          go_upto_region 15 with fail
          have F := q14 R.out
          clear z0 z1 zf y0 y1 R
          revert F
          generalize (w8.setCell ⟨G, 0, Option.none⟩ (.int .i64 c'.now)).setCell ⟨G, 1, Option.none⟩ (.slice A6 n6 c6) = w9
          rintro ⟨B2, Bd2, P9, O9⟩
          have x0 := P9.box.cell 0
          have x1 := P9.box.cell 1
          simp at x0 x1
          have KE := Lib.hid (equal_calls B2 C c' (.slice A6 n6 c6) w9 P9.clk P9.row)
          have P9 := Lib.hid P9
          have O9 := Lib.hid O9
          rcases Nat.eq_zero_or_pos (i % 10) with hi10 | hi10
          · have hm : ((i : Int)).tmod 10 = 0 := by rw [Int.tmod_eq_emod_of_nonneg (by omega)]; omega
            have hm2 : (i : Int) % 10 = 0 := by omega
            go_wp2_with fail
            refine KE.out.mono ?_
            rintro e w10 ⟨rfl, b10⟩
            have P10 := Lib.hid (P9.out.below b10)
            have O10 := Lib.hid (O9.out.below b10)
            clear b10 x0 x1 KE P9 O9
            have x0 := O10.out.box.cell 0
            have x1 := O10.out.box.cell 1
            simp at x0 x1
            go_wp2_with fail
            refine (equal_calls Bd2 D c (.slice Av nv cv) w10 O10.out.clk O10.out.row).mono ?_
            rintro e w11 ⟨rfl, b11⟩
            have P11 := Lib.hid (P10.out.below b11)
            clear b11 x0 x1 hm hm2 hi10
            go_wp2
            go_roundw
            case rel => exact ⟨i + 1, B2, c', _, by go_num, by omega, by omega, P11⟩
            case measure => first | (simp [intOf]; omega) | (simp [intOf]; done)
          · have hm : ¬ (((i : Int)).tmod 10 = 0) := by rw [Int.tmod_eq_emod_of_nonneg (by omega)]; omega
            have hm2 : ¬ ((i : Int) % 10 = 0) := by omega
            go_wp2_with fail
            refine KE.out.mono ?_
            rintro e w10 ⟨rfl, b10⟩
            have P10 := Lib.hid (P9.out.below b10)
            clear b10 x0 x1 KE P9 O9
            go_wp2
            go_roundw
            case rel => exact ⟨i + 1, B2, c', _, by go_num, by omega, by omega, P10⟩
            case measure => first | (simp [intOf]; omega) | (simp [intOf]; done)
    · rcases (by omega : ((i : Int) < (ops.length : Int) ∧ ¬ (i : Int) < 200) ∨ ¬ (i : Int) < (ops.length : Int)) with ⟨hi2, hi3⟩ | hi2
      all_goals
        have hi4 := hi2
        go_wp2_with fail
        refine (known_calls _).mono ?_
        rintro e w5 ⟨rfl, b5⟩
        have S5 := Lib.hid (hP.out.below b5)
        clear b5
        go_wp2
        go_ret
        exact ⟨rfl, S5.out.bel⟩
theorem plays_all (nm : Int) (B : Option Addr) (cap : Nat) (ops : List OpV) (w : World) (hB : Reps w B 3 encO ops) (ho : ∀ o ∈ ops, OpOk o) (hl : ops.length ≤ 9223372036854775807) :
    Calls Try.prog 5 #[.int .i64 nm, .slice B ops.length cap] w (Gives w (.bool true)) := by
  by_cases hn : nm < 1 ∨ 64 < nm
  · exact plays_bad nm _ w hn
  · obtain ⟨k, rfl⟩ := Int.eq_ofNat_of_zero_le (show 0 ≤ nm by omega)
    exact plays_walk k B cap ops w (by omega) (by omega) hB ho hl
end Go.Proofs.Ytiphkgkhfomcaaa.Alarm
