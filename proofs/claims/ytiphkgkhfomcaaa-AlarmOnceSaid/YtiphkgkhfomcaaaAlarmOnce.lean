/- Chapter 13 (alarm): each alarm rings once, none too late: the walk. -/
import Derived.Test.YtiphkgkhfomcaaaAlarmSt
import Derived.BigQuiet
import Derived.Lib.QuietBelow
set_option linter.unusedSimpArgs false
set_option linter.unusedVariables false
attribute [local go_sem ↓] Go.wp_at_zero Go.wp_at_succ
namespace Go.Proofs.Ytiphkgkhfomcaaa.Alarm
open Go.BigFrame Go.RowKit Go.OpenShut Go.Proofs.Ytiphkgkhfomcaaa.Aid Go.Proofs.Ytiphkgkhfomcaaa.DMap Go.Proofs.Ytiphkgkhfomcaaa.Heap
set_option maxRecDepth 100000 in
set_option maxHeartbeats 8000000 in
theorem once_walk (nm : Int) (B : Option Addr) (cap : Nat) (ops : List OpV) (w : World) (hm : 0 ≤ nm ∧ nm ≤ 255) (hB : Reps w B 3 encO ops) (ho : ∀ o ∈ ops, OpOk o) (hl : ops.length ≤ 9223372036854775807) :
    Calls Try.prog 3 #[.int .u8 nm, .slice B ops.length cap] w (Gives w (.bool true)) := by
  have HB := Lib.hid hB
  have HO := Lib.hid ho
  clear hB ho
  obtain ⟨m, hm2⟩ := Int.eq_ofNat_of_zero_le (show 0 ≤ nm % 64 by omega)
  have ht : nm.tmod 64 = (m : Int) := by rw [Int.tmod_eq_emod_of_nonneg hm.1]; exact hm2
  have hml : m ≤ 63 := by omega
  obtain ⟨n, hn⟩ : ∃ n, 1 + m = n := ⟨_, rfl⟩
  have hn2 : 1 + (m : Int) = (n : Int) := by omega
  clear hm hm2
  go_enter Try.func3, Try.ntmps3
  go_wp2_with fail
  refine (known_calls w).mono ?_
  rintro e w1 ⟨rfl, b1⟩
  have B1 := Lib.hid b1
  clear b1
  go_wp2_with fail
  refine (new_has n w w1 (by omega) (by omega) B1.out).mono ?_
  rintro e w2 ⟨C, rfl, h2⟩
  have H2 := Lib.hid h2
  clear h2
  go_upto_region 8 with fail
  have S3 := st_new H2.out (by omega)
  revert S3
  generalize w2.alloc (.cells #[.int .i64 0, .int .i64 0, .int .i64 0, .int .i64 0, .int .i64 0, .int .i64 0, .int .i64 0, .int .i64 0, .int .i64 0, .int .i64 0, .int .i64 0, .int .i64 0, .int .i64 0, .int .i64 0, .int .i64 0, .int .i64 0, .int .i64 0, .int .i64 0, .int .i64 0, .int .i64 0, .int .i64 0, .int .i64 0, .int .i64 0, .int .i64 0, .int .i64 0, .int .i64 0, .int .i64 0, .int .i64 0, .int .i64 0, .int .i64 0, .int .i64 0, .int .i64 0, .int .i64 0, .int .i64 0, .int .i64 0, .int .i64 0, .int .i64 0, .int .i64 0, .int .i64 0, .int .i64 0, .int .i64 0, .int .i64 0, .int .i64 0, .int .i64 0, .int .i64 0, .int .i64 0, .int .i64 0, .int .i64 0, .int .i64 0, .int .i64 0, .int .i64 0, .int .i64 0, .int .i64 0, .int .i64 0, .int .i64 0, .int .i64 0, .int .i64 0, .int .i64 0, .int .i64 0, .int .i64 0, .int .i64 0, .int .i64 0, .int .i64 0, .int .i64 0] 28) = w3
  intro S3
  generalize w2.heap.size = G at *
  have S3 := Lib.hid S3
  clear H2 B1
  go_wp2
  go_loopw [9] (fun iv wr => ∃ (i : Nat) (c : Ck) (T : List Int), iv = .int .i64 i ∧ i ≤ 200 ∧ i ≤ ops.length ∧ Hid (St w wr C G n c T)) (fun iv _ => 200 - (intOf iv).toNat)
  case atStart => exact ⟨0, fresh n, List.replicate 64 0, rfl, by omega, by omega, S3⟩
  case round =>
    obtain ⟨i, c, T, rfl, hi200, hil, hS⟩ := hrel
    clear S3
    by_cases hlt : i < 200 ∧ i < ops.length
    · obtain ⟨o, hoi⟩ : ∃ o, ops[i]? = some o := ⟨_, List.getElem?_eq_getElem hlt.2⟩
      obtain ⟨oa, oe, hol, hc0, hc1, hc2⟩ := rops (HB.out.below hS.out.clk.bel) i o hoi
      subst oe
      obtain ⟨oi1, oi2, oi3, oi4⟩ := HO.out o (List.mem_of_getElem? hoi)
      have hi1 : (i : Int) < 200 := by omega
      have hi2 : (i : Int) < (ops.length : Int) := by omega
      have hi3 : (0 : Int) ≤ (i : Int) := by omega
      obtain ⟨ok, onm, on⟩ := o
      simp only at oi1 oi2 oi3 oi4 hc0 hc1 hc2
      have hob := add_block oa (i * 3)
      rw [hob] at hc1 hc2
      have hkm : ok.tmod 3 = ok % 3 := Int.tmod_eq_emod_of_nonneg oi1
      have hS1 := Lib.hid (hS.out.below ((Below.refl _ wr).alloc (Nat.le_refl _) (.cells #[.int .u8 ok, .int .i64 onm, .int .i64 on] 30)))
      have hbx := (Blk.new wr 30 #[.int .u8 ok, .int .i64 onm, .int .i64 on])
      rcases (by omega : ok % 3 = 0 ∨ ok % 3 = 1 ∨ ok % 3 = 2) with hk3 | hk3 | hk3
      · as_aux_lemma =>
        have hkk : ok.tmod 3 = 0 := by omega
        clear hkm hk3
        by_cases hgood : ((0 ≤ onm ∧ onm < n) ∧ c.now ≤ on) ∧ on ≤ 4611686018427387904
        · as_aux_lemma =>
          obtain ⟨q, rfl⟩ := Int.eq_ofNat_of_zero_le hgood.1.1.1
          have KS := Lib.hid (set_st hS.out (.cells #[.int .u8 ok, .int .i64 q, .int .i64 on] 30) q on (by omega) hgood.1.2 hgood.2)
          have s0 : ¬ ((q : Int) < 0) := by omega
          have s1 : ¬ ((n : Int) ≤ (q : Int)) := by omega
          have hn64 := hS.out.inv.n64
          have s2 : (0 : Int) ≤ (q : Int) := by omega
          have s3 : (q : Int) < 64 := by omega
          have hT64 := hS.out.inv.t64
          have hqT : q < T.length := by omega
          go_wp2_with fail
          refine KS.out.mono ?_
          rintro e w5 ⟨rfl, s5, x5, y5⟩
          have S5 := Lib.hid s5
          have z5 : Blk w5 wr.heap.size 30 #[.int .u8 ok, .int .i64 q, .int .i64 on] := y5
          have o1 := z5.cell 1
          have o2 := z5.cell 2
          simp at o1 o2
          have x0 : w5.cell? ⟨G, q, Option.none⟩ = some (.int .i64 (at_ T q)) := by rw [x5.cell q]; exact arr_get T q hqT
          have x1 := x5.frozen
          clear s5 x5 y5 z5
          go_upto_region 32 with fail
          clear x0 x1 o1 o2
          generalize w5.setCell ⟨G, q, Option.none⟩ (.int .i64 on) = w6 at *
          by_cases hbz : best ((Ck.mk c.now (c.A.set q on))).A < 0
          · as_aux_lemma =>
            have KX := Lib.hid (next_st_none S5.out hbz)
            go_wp2_with fail
            refine KX.out.mono ?_
            rintro e wy ⟨rfl, bz⟩
            have SY := Lib.hid (S5.out.below bz)
            clear bz KX
            go_wp2
            go_roundw
            case rel => exact ⟨i + 1, (Ck.mk c.now (c.A.set q on)), (T.set q on), by go_num, by omega, by omega, SY⟩
            case measure => first | (simp [intOf]; omega) | (simp [intOf]; done)
          · as_aux_lemma =>
            obtain ⟨bb, hb0, KX⟩ := next_st_some S5.out hbz
            have KX := Lib.hid KX
            have hna : ¬ (at_ ((Ck.mk c.now (c.A.set q on))).A bb < ((Ck.mk c.now (c.A.set q on))).now) := by have := S5.out.inv.ahead bb hb0; omega
            generalize hab : at_ ((Ck.mk c.now (c.A.set q on))).A bb = ab at *
            go_wp2_with fail
            refine KX.out.mono ?_
            rintro e wy ⟨rfl, bz⟩
            have SY := Lib.hid (S5.out.below bz)
            clear bz KX
            go_wp2_with fail
            refine (now_st SY.out).mono ?_
            rintro e wz ⟨rfl, rfl⟩
            go_wp2
            go_roundw
            case rel => exact ⟨i + 1, (Ck.mk c.now (c.A.set q on)), (T.set q on), by go_num, by omega, by omega, SY⟩
            case measure => first | (simp [intOf]; omega) | (simp [intOf]; done)
        · as_aux_lemma =>
          have KS := Lib.hid (set_st_bad hS1.out onm on (by omega))
          go_wp2_with fail
          refine KS.out.mono ?_
          rintro e w5 ⟨he, rfl⟩
          rcases he with rfl | rfl
          · go_upto_region 32 with fail
            by_cases hbz : best (c).A < 0
            · as_aux_lemma =>
              have KX := Lib.hid (next_st_none hS1.out hbz)
              go_wp2_with fail
              refine KX.out.mono ?_
              rintro e wy ⟨rfl, bz⟩
              have SY := Lib.hid (hS1.out.below bz)
              clear bz KX
              go_wp2
              go_roundw
              case rel => exact ⟨i + 1, c, T, by go_num, by omega, by omega, SY⟩
              case measure => first | (simp [intOf]; omega) | (simp [intOf]; done)
            · as_aux_lemma =>
              obtain ⟨bb, hb0, KX⟩ := next_st_some hS1.out hbz
              have KX := Lib.hid KX
              have hna : ¬ (at_ (c).A bb < (c).now) := by have := hS1.out.inv.ahead bb hb0; omega
              generalize hab : at_ (c).A bb = ab at *
              go_wp2_with fail
              refine KX.out.mono ?_
              rintro e wy ⟨rfl, bz⟩
              have SY := Lib.hid (hS1.out.below bz)
              clear bz KX
              go_wp2_with fail
              refine (now_st SY.out).mono ?_
              rintro e wz ⟨rfl, rfl⟩
              go_wp2
              go_roundw
              case rel => exact ⟨i + 1, c, T, by go_num, by omega, by omega, SY⟩
              case measure => first | (simp [intOf]; omega) | (simp [intOf]; done)
          · go_upto_region 32 with fail
            by_cases hbz : best (c).A < 0
            · as_aux_lemma =>
              have KX := Lib.hid (next_st_none hS1.out hbz)
              go_wp2_with fail
              refine KX.out.mono ?_
              rintro e wy ⟨rfl, bz⟩
              have SY := Lib.hid (hS1.out.below bz)
              clear bz KX
              go_wp2
              go_roundw
              case rel => exact ⟨i + 1, c, T, by go_num, by omega, by omega, SY⟩
              case measure => first | (simp [intOf]; omega) | (simp [intOf]; done)
            · as_aux_lemma =>
              obtain ⟨bb, hb0, KX⟩ := next_st_some hS1.out hbz
              have KX := Lib.hid KX
              have hna : ¬ (at_ (c).A bb < (c).now) := by have := hS1.out.inv.ahead bb hb0; omega
              generalize hab : at_ (c).A bb = ab at *
              go_wp2_with fail
              refine KX.out.mono ?_
              rintro e wy ⟨rfl, bz⟩
              have SY := Lib.hid (hS1.out.below bz)
              clear bz KX
              go_wp2_with fail
              refine (now_st SY.out).mono ?_
              rintro e wz ⟨rfl, rfl⟩
              go_wp2
              go_roundw
              case rel => exact ⟨i + 1, c, T, by go_num, by omega, by omega, SY⟩
              case measure => first | (simp [intOf]; omega) | (simp [intOf]; done)
      · as_aux_lemma =>
        have hkk : ok.tmod 3 = 1 := by omega
        clear hkm hk3
        have KS := Lib.hid (stop_st hS1.out onm oi3)
        go_wp2_with fail
        refine KS.out.mono ?_
        rintro e w5 ⟨⟨v, rfl⟩, A', s5⟩
        have S5 := Lib.hid s5
        clear s5
        go_upto_region 32 with fail
        by_cases hbz : best ((Ck.mk c.now A')).A < 0
        · as_aux_lemma =>
          have KX := Lib.hid (next_st_none S5.out hbz)
          go_wp2_with fail
          refine KX.out.mono ?_
          rintro e wy ⟨rfl, bz⟩
          have SY := Lib.hid (S5.out.below bz)
          clear bz KX
          go_wp2
          go_roundw
          case rel => exact ⟨i + 1, (Ck.mk c.now A'), T, by go_num, by omega, by omega, SY⟩
          case measure => first | (simp [intOf]; omega) | (simp [intOf]; done)
        · as_aux_lemma =>
          obtain ⟨bb, hb0, KX⟩ := next_st_some S5.out hbz
          have KX := Lib.hid KX
          have hna : ¬ (at_ ((Ck.mk c.now A')).A bb < ((Ck.mk c.now A')).now) := by have := S5.out.inv.ahead bb hb0; omega
          generalize hab : at_ ((Ck.mk c.now A')).A bb = ab at *
          go_wp2_with fail
          refine KX.out.mono ?_
          rintro e wy ⟨rfl, bz⟩
          have SY := Lib.hid (S5.out.below bz)
          clear bz KX
          go_wp2_with fail
          refine (now_st SY.out).mono ?_
          rintro e wz ⟨rfl, rfl⟩
          go_wp2
          go_roundw
          case rel => exact ⟨i + 1, (Ck.mk c.now A'), T, by go_num, by omega, by omega, SY⟩
          case measure => first | (simp [intOf]; omega) | (simp [intOf]; done)
      · as_aux_lemma =>
        have hkk : ok.tmod 3 = 2 := by omega
        clear hkm hk3
        have KS := Lib.hid (advance_any hS1.out on)
        go_wp2_with fail
        refine KS.out.mono ?_
        rintro e w5 ⟨v, xs, er, c2, rfl, s5, r5, td⟩
        obtain ⟨Av, cv, rfl, _, hR5⟩ := r5.reps encI_len
        have TD := Lib.hid td
        have S5 := Lib.hid s5
        have R5 := Lib.hid hR5
        clear s5 r5 td hR5
        rcases TD.out.erx with he | he
        · subst he
          by_cases hbn : best c2.A < 0
          · as_aux_lemma =>
            have KX := Lib.hid (next_st_none S5.out hbn)
            go_wp2_with fail
            refine KX.out.mono ?_
            rintro e w6 ⟨rfl, bz⟩
            have S6 := Lib.hid (S5.out.below bz)
            have R6 := Lib.hid (R5.out.below bz)
            clear bz KX S5 R5 hbn
            go_wp2
            go_loopw [16] (fun kv wr => ∃ k : Nat, kv = .int .i64 k ∧ k ≤ xs.length ∧ Hid (St w wr C G n c2 T) ∧ Hid (Reps wr Av 1 encI xs)) (fun kv _ => xs.length - (intOf kv).toNat)
            case atStart => exact ⟨0, rfl, by omega, S6, R6⟩
            case round =>
              as_aux_lemma =>
              obtain ⟨k, rfl, hk, hS2, hR2⟩ := hrel
              clear S6 R6
              by_cases hkl : k < xs.length
              · obtain ⟨x, hx⟩ : ∃ x, xs[k]? = some x := ⟨_, List.getElem?_eq_getElem hkl⟩
                obtain ⟨b, rfl, hbn, hbt, hbo⟩ := TD.out.each k x hx
                obtain ⟨ad, rfl, hadl, hc⟩ := hR2.out k _ hx
                have d0 : wr.cell? (ad.add k) = some (.int .i64 b) := by have := hc 0 _ rfl; simpa using this
                have hT64 := hS2.out.inv.t64
                have hn64 := hS2.out.inv.n64
                have g0 : wr.cell? ⟨G, b, Option.none⟩ = some (.int .i64 (at_ T b)) := by rw [hS2.out.box.cell b]; exact arr_get T b (by omega)
                have r0 : (0 : Int) ≤ (k : Int) := by omega
                have r1 : (k : Int) < (xs.length : Int) := by omega
                have r2 : ¬ ((b : Int) < 0) := by omega
                have r3 : ¬ ((n : Int) ≤ (b : Int)) := by omega
                have r4 : ¬ (c2.now < at_ T b) := by omega
                have r5 : (0 : Int) ≤ (b : Int) := by omega
                have r6 : (b : Int) < 64 := by omega
                have KN : Hid (∀ d, Calls Try.prog 17 #[.pointer (some ⟨C, 0, Option.none⟩)] (wr.drewN d) fun e w'' => e = .returned (.int .i64 c2.now) ∧ ∃ m, w'' = wr.drewN m) := Lib.hid (fun d => (now_st (hS2.out.below (below_drewN (Below.refl _ _) d))).mono fun e w'' ⟨h1, h2⟩ => ⟨h1, d, h2.symm⟩)
                clear hc
                obtain ⟨tb, htb⟩ : ∃ tb, at_ T b = tb := ⟨_, rfl⟩
                rw [htb] at g0 r4
                have fin : Hid (∀ nq, St w (wr.drewN nq) C G n c2 T ∧ Reps (wr.drewN nq) (some ad) 1 encI xs) := Lib.hid (fun nq => ⟨hS2.out.below (below_drewN (Below.refl _ _) nq), hR2.out.below (below_drewN (Below.refl _ _) nq)⟩)
                have HT := Lib.hid htb
                obtain ⟨cnow, hcn⟩ : ∃ cnow, c2.now = cnow := ⟨_, rfl⟩
                rw [hcn] at r4 KN
                clear hcn htb hbt
                have KA := Lib.hid (fun nq => at_st (fin.out nq).1 b hbn hbo)
                clear hbo
                have r2b : decide ((b : Int) < 0) = false := decide_eq_false r2
                have r3b : decide (n ≤ b) = false := decide_eq_false (by omega)
                have r4b : decide (cnow < tb) = false := decide_eq_false r4
                rcases Nat.eq_zero_or_pos k with hk0 | hk0
                · as_aux_lemma =>
                  have r7 : ¬ ((0 : Int) < (k : Int)) := by omega
                  have r7b : decide (0 < k) = false := decide_eq_false (by omega)
                  have r7c : decide ((0 : Int) < (k : Int)) = false := decide_eq_false r7
                  clear hk0 hx
                  go_wp2
                  refine wp_region_quiet_lit (by kernel_rfl) (by kernel_rfl) ?_
                  repeat (go_big_quiet_step (exact KN.out _))
                  refine wpQuiet_nil ?_
                  rintro _ ⟨nq, rfl⟩
                  go_wp2_with fail
                  refine (KA.out nq).mono ?_
                  rintro e wq ⟨rfl, rfl⟩
                  go_wp2
                  go_roundw
                  case rel => exact ⟨k + 1, by go_num, by omega, Lib.hid (fin.out nq).1, Lib.hid (fin.out nq).2⟩
                  case measure => first | (simp [intOf]; omega) | (simp [intOf]; done)
                · as_aux_lemma =>
                  obtain ⟨p, hp⟩ : ∃ p, k = p + 1 := ⟨k - 1, by omega⟩
                  have hp2 : (k : Int) - 1 = (p : Int) := by omega
                  have r7 : (0 : Int) < (k : Int) := by omega
                  obtain ⟨y, hy⟩ : ∃ y, xs[p]? = some y := ⟨_, List.getElem?_eq_getElem (by omega)⟩
                  obtain ⟨q, rfl, hqn, _, _⟩ := TD.out.each p y hy
                  have hor := TD.out.order p q b hy (by rw [← hp]; exact hx)
                  obtain ⟨ad', e', _, hc⟩ := hR2.out p _ hy
                  obtain rfl : ad = ad' := by simpa using e'
                  have d1 : wr.cell? (ad.add p) = some (.int .i64 q) := by have := hc 0 _ rfl; simpa using this
                  obtain ⟨tq, htq⟩ : ∃ tq, at_ T q = tq := ⟨_, rfl⟩
                  have g1 : wr.cell? ⟨G, q, Option.none⟩ = some (.int .i64 tq) := by rw [← htq, hS2.out.box.cell q]; exact arr_get T q (by omega)
                  have r8 : ¬ (tb < tq) := by rw [← htq, ← HT.out]; omega
                  have r7b : decide (0 < k) = true := decide_eq_true (by omega)
                  have r7c : decide ((0 : Int) < (k : Int)) = true := decide_eq_true r7
                  have r8b : decide (tb < tq) = false := decide_eq_false r8
                  have r9 : (0 : Int) ≤ (q : Int) := by omega
                  have r10 : (q : Int) < 64 := by omega
                  have r11 : (0 : Int) ≤ (p : Int) := by omega
                  have hxl64 := TD.out.len
                  have r13 : (p : Int) ≤ 64 := by omega
                  have r12 : (p : Int) < (xs.length : Int) := by omega
                  clear hc e' hor hp hk0 hx hy htq
                  go_wp2
                  refine wp_region_quiet_lit (by kernel_rfl) (by kernel_rfl) ?_
                  repeat (go_big_quiet_step (exact KN.out _))
                  refine wpQuiet_nil ?_
                  rintro _ ⟨nq, rfl⟩
                  clear hp2 r13 r11 r12 r9 r10 r8 r8b d1 g1 hqn
                  go_wp2_with fail
                  refine (KA.out nq).mono ?_
                  rintro e wq ⟨rfl, rfl⟩
                  go_wp2
                  go_roundw
                  case rel => exact ⟨k + 1, by go_num, by omega, Lib.hid (fin.out nq).1, Lib.hid (fin.out nq).2⟩
                  case measure => first | (simp [intOf]; omega) | (simp [intOf]; done)
              · obtain rfl : k = xs.length := by omega
                go_upto_region 32 with fail
                by_cases hbz : best (c2).A < 0
                · as_aux_lemma =>
                  have KX := Lib.hid (next_st_none hS2.out hbz)
                  go_wp2_with fail
                  refine KX.out.mono ?_
                  rintro e wy ⟨rfl, bz⟩
                  have SY := Lib.hid (hS2.out.below bz)
                  clear bz KX
                  go_wp2
                  go_roundw
                  case rel => exact ⟨i + 1, c2, T, by go_num, by omega, by omega, SY⟩
                  case measure => first | (simp [intOf]; omega) | (simp [intOf]; done)
                · as_aux_lemma =>
                  obtain ⟨bb, hb0, KX⟩ := next_st_some hS2.out hbz
                  have KX := Lib.hid KX
                  have hna : ¬ (at_ (c2).A bb < (c2).now) := by have := hS2.out.inv.ahead bb hb0; omega
                  generalize hab : at_ (c2).A bb = ab at *
                  go_wp2_with fail
                  refine KX.out.mono ?_
                  rintro e wy ⟨rfl, bz⟩
                  have SY := Lib.hid (hS2.out.below bz)
                  clear bz KX
                  go_wp2_with fail
                  refine (now_st SY.out).mono ?_
                  rintro e wz ⟨rfl, rfl⟩
                  go_wp2
                  go_roundw
                  case rel => exact ⟨i + 1, c2, T, by go_num, by omega, by omega, SY⟩
                  case measure => first | (simp [intOf]; omega) | (simp [intOf]; done)
          · as_aux_lemma =>
            obtain ⟨bb, hb0, KX⟩ := next_st_some S5.out hbn
            have KX := Lib.hid KX
            have hle : ¬ (at_ c2.A bb ≤ c2.now) := by have := TD.out.left rfl bb hb0; omega
            generalize hab : at_ c2.A bb = ab at *
            go_wp2_with fail
            refine KX.out.mono ?_
            rintro e w6 ⟨rfl, bz⟩
            have S6 := Lib.hid (S5.out.below bz)
            have R6 := Lib.hid (R5.out.below bz)
            clear bz KX S5 R5 hbn
            go_wp2_with fail
            refine (now_st S6.out).mono ?_
            rintro e w7 ⟨rfl, rfl⟩
            have S6 := Lib.hid S6.out
            go_wp2
            clear hab hle
            go_loopw [16] (fun kv wr => ∃ k : Nat, kv = .int .i64 k ∧ k ≤ xs.length ∧ Hid (St w wr C G n c2 T) ∧ Hid (Reps wr Av 1 encI xs)) (fun kv _ => xs.length - (intOf kv).toNat)
            case atStart => exact ⟨0, rfl, by omega, S6, R6⟩
            case round =>
              as_aux_lemma =>
              obtain ⟨k, rfl, hk, hS2, hR2⟩ := hrel
              clear S6 R6
              by_cases hkl : k < xs.length
              · obtain ⟨x, hx⟩ : ∃ x, xs[k]? = some x := ⟨_, List.getElem?_eq_getElem hkl⟩
                obtain ⟨b, rfl, hbn, hbt, hbo⟩ := TD.out.each k x hx
                obtain ⟨ad, rfl, hadl, hc⟩ := hR2.out k _ hx
                have d0 : wr.cell? (ad.add k) = some (.int .i64 b) := by have := hc 0 _ rfl; simpa using this
                have hT64 := hS2.out.inv.t64
                have hn64 := hS2.out.inv.n64
                have g0 : wr.cell? ⟨G, b, Option.none⟩ = some (.int .i64 (at_ T b)) := by rw [hS2.out.box.cell b]; exact arr_get T b (by omega)
                have r0 : (0 : Int) ≤ (k : Int) := by omega
                have r1 : (k : Int) < (xs.length : Int) := by omega
                have r2 : ¬ ((b : Int) < 0) := by omega
                have r3 : ¬ ((n : Int) ≤ (b : Int)) := by omega
                have r4 : ¬ (c2.now < at_ T b) := by omega
                have r5 : (0 : Int) ≤ (b : Int) := by omega
                have r6 : (b : Int) < 64 := by omega
                have KN : Hid (∀ d, Calls Try.prog 17 #[.pointer (some ⟨C, 0, Option.none⟩)] (wr.drewN d) fun e w'' => e = .returned (.int .i64 c2.now) ∧ ∃ m, w'' = wr.drewN m) := Lib.hid (fun d => (now_st (hS2.out.below (below_drewN (Below.refl _ _) d))).mono fun e w'' ⟨h1, h2⟩ => ⟨h1, d, h2.symm⟩)
                clear hc
                obtain ⟨tb, htb⟩ : ∃ tb, at_ T b = tb := ⟨_, rfl⟩
                rw [htb] at g0 r4
                have fin : Hid (∀ nq, St w (wr.drewN nq) C G n c2 T ∧ Reps (wr.drewN nq) (some ad) 1 encI xs) := Lib.hid (fun nq => ⟨hS2.out.below (below_drewN (Below.refl _ _) nq), hR2.out.below (below_drewN (Below.refl _ _) nq)⟩)
                have HT := Lib.hid htb
                obtain ⟨cnow, hcn⟩ : ∃ cnow, c2.now = cnow := ⟨_, rfl⟩
                rw [hcn] at r4 KN
                clear hcn htb hbt
                have KA := Lib.hid (fun nq => at_st (fin.out nq).1 b hbn hbo)
                clear hbo
                have r2b : decide ((b : Int) < 0) = false := decide_eq_false r2
                have r3b : decide (n ≤ b) = false := decide_eq_false (by omega)
                have r4b : decide (cnow < tb) = false := decide_eq_false r4
                rcases Nat.eq_zero_or_pos k with hk0 | hk0
                · as_aux_lemma =>
                  have r7 : ¬ ((0 : Int) < (k : Int)) := by omega
                  have r7b : decide (0 < k) = false := decide_eq_false (by omega)
                  have r7c : decide ((0 : Int) < (k : Int)) = false := decide_eq_false r7
                  clear hk0 hx
                  go_wp2
                  refine wp_region_quiet_lit (by kernel_rfl) (by kernel_rfl) ?_
                  repeat (go_big_quiet_step (exact KN.out _))
                  refine wpQuiet_nil ?_
                  rintro _ ⟨nq, rfl⟩
                  go_wp2_with fail
                  refine (KA.out nq).mono ?_
                  rintro e wq ⟨rfl, rfl⟩
                  go_wp2
                  go_roundw
                  case rel => exact ⟨k + 1, by go_num, by omega, Lib.hid (fin.out nq).1, Lib.hid (fin.out nq).2⟩
                  case measure => first | (simp [intOf]; omega) | (simp [intOf]; done)
                · as_aux_lemma =>
                  obtain ⟨p, hp⟩ : ∃ p, k = p + 1 := ⟨k - 1, by omega⟩
                  have hp2 : (k : Int) - 1 = (p : Int) := by omega
                  have r7 : (0 : Int) < (k : Int) := by omega
                  obtain ⟨y, hy⟩ : ∃ y, xs[p]? = some y := ⟨_, List.getElem?_eq_getElem (by omega)⟩
                  obtain ⟨q, rfl, hqn, _, _⟩ := TD.out.each p y hy
                  have hor := TD.out.order p q b hy (by rw [← hp]; exact hx)
                  obtain ⟨ad', e', _, hc⟩ := hR2.out p _ hy
                  obtain rfl : ad = ad' := by simpa using e'
                  have d1 : wr.cell? (ad.add p) = some (.int .i64 q) := by have := hc 0 _ rfl; simpa using this
                  obtain ⟨tq, htq⟩ : ∃ tq, at_ T q = tq := ⟨_, rfl⟩
                  have g1 : wr.cell? ⟨G, q, Option.none⟩ = some (.int .i64 tq) := by rw [← htq, hS2.out.box.cell q]; exact arr_get T q (by omega)
                  have r8 : ¬ (tb < tq) := by rw [← htq, ← HT.out]; omega
                  have r7b : decide (0 < k) = true := decide_eq_true (by omega)
                  have r7c : decide ((0 : Int) < (k : Int)) = true := decide_eq_true r7
                  have r8b : decide (tb < tq) = false := decide_eq_false r8
                  have r9 : (0 : Int) ≤ (q : Int) := by omega
                  have r10 : (q : Int) < 64 := by omega
                  have r11 : (0 : Int) ≤ (p : Int) := by omega
                  have hxl64 := TD.out.len
                  have r13 : (p : Int) ≤ 64 := by omega
                  have r12 : (p : Int) < (xs.length : Int) := by omega
                  clear hc e' hor hp hk0 hx hy htq
                  go_wp2
                  refine wp_region_quiet_lit (by kernel_rfl) (by kernel_rfl) ?_
                  repeat (go_big_quiet_step (exact KN.out _))
                  refine wpQuiet_nil ?_
                  rintro _ ⟨nq, rfl⟩
                  clear hp2 r13 r11 r12 r9 r10 r8 r8b d1 g1 hqn
                  go_wp2_with fail
                  refine (KA.out nq).mono ?_
                  rintro e wq ⟨rfl, rfl⟩
                  go_wp2
                  go_roundw
                  case rel => exact ⟨k + 1, by go_num, by omega, Lib.hid (fin.out nq).1, Lib.hid (fin.out nq).2⟩
                  case measure => first | (simp [intOf]; omega) | (simp [intOf]; done)
              · obtain rfl : k = xs.length := by omega
                go_upto_region 32 with fail
                by_cases hbz : best (c2).A < 0
                · as_aux_lemma =>
                  have KX := Lib.hid (next_st_none hS2.out hbz)
                  go_wp2_with fail
                  refine KX.out.mono ?_
                  rintro e wy ⟨rfl, bz⟩
                  have SY := Lib.hid (hS2.out.below bz)
                  clear bz KX
                  go_wp2
                  go_roundw
                  case rel => exact ⟨i + 1, c2, T, by go_num, by omega, by omega, SY⟩
                  case measure => first | (simp [intOf]; omega) | (simp [intOf]; done)
                · as_aux_lemma =>
                  obtain ⟨bb, hb0, KX⟩ := next_st_some hS2.out hbz
                  have KX := Lib.hid KX
                  have hna : ¬ (at_ (c2).A bb < (c2).now) := by have := hS2.out.inv.ahead bb hb0; omega
                  generalize hab : at_ (c2).A bb = ab at *
                  go_wp2_with fail
                  refine KX.out.mono ?_
                  rintro e wy ⟨rfl, bz⟩
                  have SY := Lib.hid (hS2.out.below bz)
                  clear bz KX
                  go_wp2_with fail
                  refine (now_st SY.out).mono ?_
                  rintro e wz ⟨rfl, rfl⟩
                  go_wp2
                  go_roundw
                  case rel => exact ⟨i + 1, c2, T, by go_num, by omega, by omega, SY⟩
                  case measure => first | (simp [intOf]; omega) | (simp [intOf]; done)
        · subst he
          by_cases hbn : best c2.A < 0
          · as_aux_lemma =>
            have KX := Lib.hid (next_st_none S5.out hbn)
            go_wp2_with fail
            refine KX.out.mono ?_
            rintro e w6 ⟨rfl, bz⟩
            have S6 := Lib.hid (S5.out.below bz)
            have R6 := Lib.hid (R5.out.below bz)
            clear bz KX S5 R5 hbn
            go_wp2
            go_loopw [16] (fun kv wr => ∃ k : Nat, kv = .int .i64 k ∧ k ≤ xs.length ∧ Hid (St w wr C G n c2 T) ∧ Hid (Reps wr Av 1 encI xs)) (fun kv _ => xs.length - (intOf kv).toNat)
            case atStart => exact ⟨0, rfl, by omega, S6, R6⟩
            case round =>
              as_aux_lemma =>
              obtain ⟨k, rfl, hk, hS2, hR2⟩ := hrel
              clear S6 R6
              by_cases hkl : k < xs.length
              · obtain ⟨x, hx⟩ : ∃ x, xs[k]? = some x := ⟨_, List.getElem?_eq_getElem hkl⟩
                obtain ⟨b, rfl, hbn, hbt, hbo⟩ := TD.out.each k x hx
                obtain ⟨ad, rfl, hadl, hc⟩ := hR2.out k _ hx
                have d0 : wr.cell? (ad.add k) = some (.int .i64 b) := by have := hc 0 _ rfl; simpa using this
                have hT64 := hS2.out.inv.t64
                have hn64 := hS2.out.inv.n64
                have g0 : wr.cell? ⟨G, b, Option.none⟩ = some (.int .i64 (at_ T b)) := by rw [hS2.out.box.cell b]; exact arr_get T b (by omega)
                have r0 : (0 : Int) ≤ (k : Int) := by omega
                have r1 : (k : Int) < (xs.length : Int) := by omega
                have r2 : ¬ ((b : Int) < 0) := by omega
                have r3 : ¬ ((n : Int) ≤ (b : Int)) := by omega
                have r4 : ¬ (c2.now < at_ T b) := by omega
                have r5 : (0 : Int) ≤ (b : Int) := by omega
                have r6 : (b : Int) < 64 := by omega
                have KN : Hid (∀ d, Calls Try.prog 17 #[.pointer (some ⟨C, 0, Option.none⟩)] (wr.drewN d) fun e w'' => e = .returned (.int .i64 c2.now) ∧ ∃ m, w'' = wr.drewN m) := Lib.hid (fun d => (now_st (hS2.out.below (below_drewN (Below.refl _ _) d))).mono fun e w'' ⟨h1, h2⟩ => ⟨h1, d, h2.symm⟩)
                clear hc
                obtain ⟨tb, htb⟩ : ∃ tb, at_ T b = tb := ⟨_, rfl⟩
                rw [htb] at g0 r4
                have fin : Hid (∀ nq, St w (wr.drewN nq) C G n c2 T ∧ Reps (wr.drewN nq) (some ad) 1 encI xs) := Lib.hid (fun nq => ⟨hS2.out.below (below_drewN (Below.refl _ _) nq), hR2.out.below (below_drewN (Below.refl _ _) nq)⟩)
                have HT := Lib.hid htb
                obtain ⟨cnow, hcn⟩ : ∃ cnow, c2.now = cnow := ⟨_, rfl⟩
                rw [hcn] at r4 KN
                clear hcn htb hbt
                have KA := Lib.hid (fun nq => at_st (fin.out nq).1 b hbn hbo)
                clear hbo
                have r2b : decide ((b : Int) < 0) = false := decide_eq_false r2
                have r3b : decide (n ≤ b) = false := decide_eq_false (by omega)
                have r4b : decide (cnow < tb) = false := decide_eq_false r4
                rcases Nat.eq_zero_or_pos k with hk0 | hk0
                · as_aux_lemma =>
                  have r7 : ¬ ((0 : Int) < (k : Int)) := by omega
                  have r7b : decide (0 < k) = false := decide_eq_false (by omega)
                  have r7c : decide ((0 : Int) < (k : Int)) = false := decide_eq_false r7
                  clear hk0 hx
                  go_wp2
                  refine wp_region_quiet_lit (by kernel_rfl) (by kernel_rfl) ?_
                  repeat (go_big_quiet_step (exact KN.out _))
                  refine wpQuiet_nil ?_
                  rintro _ ⟨nq, rfl⟩
                  go_wp2_with fail
                  refine (KA.out nq).mono ?_
                  rintro e wq ⟨rfl, rfl⟩
                  go_wp2
                  go_roundw
                  case rel => exact ⟨k + 1, by go_num, by omega, Lib.hid (fin.out nq).1, Lib.hid (fin.out nq).2⟩
                  case measure => first | (simp [intOf]; omega) | (simp [intOf]; done)
                · as_aux_lemma =>
                  obtain ⟨p, hp⟩ : ∃ p, k = p + 1 := ⟨k - 1, by omega⟩
                  have hp2 : (k : Int) - 1 = (p : Int) := by omega
                  have r7 : (0 : Int) < (k : Int) := by omega
                  obtain ⟨y, hy⟩ : ∃ y, xs[p]? = some y := ⟨_, List.getElem?_eq_getElem (by omega)⟩
                  obtain ⟨q, rfl, hqn, _, _⟩ := TD.out.each p y hy
                  have hor := TD.out.order p q b hy (by rw [← hp]; exact hx)
                  obtain ⟨ad', e', _, hc⟩ := hR2.out p _ hy
                  obtain rfl : ad = ad' := by simpa using e'
                  have d1 : wr.cell? (ad.add p) = some (.int .i64 q) := by have := hc 0 _ rfl; simpa using this
                  obtain ⟨tq, htq⟩ : ∃ tq, at_ T q = tq := ⟨_, rfl⟩
                  have g1 : wr.cell? ⟨G, q, Option.none⟩ = some (.int .i64 tq) := by rw [← htq, hS2.out.box.cell q]; exact arr_get T q (by omega)
                  have r8 : ¬ (tb < tq) := by rw [← htq, ← HT.out]; omega
                  have r7b : decide (0 < k) = true := decide_eq_true (by omega)
                  have r7c : decide ((0 : Int) < (k : Int)) = true := decide_eq_true r7
                  have r8b : decide (tb < tq) = false := decide_eq_false r8
                  have r9 : (0 : Int) ≤ (q : Int) := by omega
                  have r10 : (q : Int) < 64 := by omega
                  have r11 : (0 : Int) ≤ (p : Int) := by omega
                  have hxl64 := TD.out.len
                  have r13 : (p : Int) ≤ 64 := by omega
                  have r12 : (p : Int) < (xs.length : Int) := by omega
                  clear hc e' hor hp hk0 hx hy htq
                  go_wp2
                  refine wp_region_quiet_lit (by kernel_rfl) (by kernel_rfl) ?_
                  repeat (go_big_quiet_step (exact KN.out _))
                  refine wpQuiet_nil ?_
                  rintro _ ⟨nq, rfl⟩
                  clear hp2 r13 r11 r12 r9 r10 r8 r8b d1 g1 hqn
                  go_wp2_with fail
                  refine (KA.out nq).mono ?_
                  rintro e wq ⟨rfl, rfl⟩
                  go_wp2
                  go_roundw
                  case rel => exact ⟨k + 1, by go_num, by omega, Lib.hid (fin.out nq).1, Lib.hid (fin.out nq).2⟩
                  case measure => first | (simp [intOf]; omega) | (simp [intOf]; done)
              · obtain rfl : k = xs.length := by omega
                go_upto_region 32 with fail
                by_cases hbz : best (c2).A < 0
                · as_aux_lemma =>
                  have KX := Lib.hid (next_st_none hS2.out hbz)
                  go_wp2_with fail
                  refine KX.out.mono ?_
                  rintro e wy ⟨rfl, bz⟩
                  have SY := Lib.hid (hS2.out.below bz)
                  clear bz KX
                  go_wp2
                  go_roundw
                  case rel => exact ⟨i + 1, c2, T, by go_num, by omega, by omega, SY⟩
                  case measure => first | (simp [intOf]; omega) | (simp [intOf]; done)
                · as_aux_lemma =>
                  obtain ⟨bb, hb0, KX⟩ := next_st_some hS2.out hbz
                  have KX := Lib.hid KX
                  have hna : ¬ (at_ (c2).A bb < (c2).now) := by have := hS2.out.inv.ahead bb hb0; omega
                  generalize hab : at_ (c2).A bb = ab at *
                  go_wp2_with fail
                  refine KX.out.mono ?_
                  rintro e wy ⟨rfl, bz⟩
                  have SY := Lib.hid (hS2.out.below bz)
                  clear bz KX
                  go_wp2_with fail
                  refine (now_st SY.out).mono ?_
                  rintro e wz ⟨rfl, rfl⟩
                  go_wp2
                  go_roundw
                  case rel => exact ⟨i + 1, c2, T, by go_num, by omega, by omega, SY⟩
                  case measure => first | (simp [intOf]; omega) | (simp [intOf]; done)
          · as_aux_lemma =>
            obtain ⟨bb, hb0, KX⟩ := next_st_some S5.out hbn
            have KX := Lib.hid KX
            generalize hab : at_ c2.A bb = ab at *
            go_wp2_with fail
            refine KX.out.mono ?_
            rintro e w6 ⟨rfl, bz⟩
            have S6 := Lib.hid (S5.out.below bz)
            have R6 := Lib.hid (R5.out.below bz)
            clear bz KX S5 R5 hbn
            go_wp2
            clear hab
            go_loopw [16] (fun kv wr => ∃ k : Nat, kv = .int .i64 k ∧ k ≤ xs.length ∧ Hid (St w wr C G n c2 T) ∧ Hid (Reps wr Av 1 encI xs)) (fun kv _ => xs.length - (intOf kv).toNat)
            case atStart => exact ⟨0, rfl, by omega, S6, R6⟩
            case round =>
              as_aux_lemma =>
              obtain ⟨k, rfl, hk, hS2, hR2⟩ := hrel
              clear S6 R6
              by_cases hkl : k < xs.length
              · obtain ⟨x, hx⟩ : ∃ x, xs[k]? = some x := ⟨_, List.getElem?_eq_getElem hkl⟩
                obtain ⟨b, rfl, hbn, hbt, hbo⟩ := TD.out.each k x hx
                obtain ⟨ad, rfl, hadl, hc⟩ := hR2.out k _ hx
                have d0 : wr.cell? (ad.add k) = some (.int .i64 b) := by have := hc 0 _ rfl; simpa using this
                have hT64 := hS2.out.inv.t64
                have hn64 := hS2.out.inv.n64
                have g0 : wr.cell? ⟨G, b, Option.none⟩ = some (.int .i64 (at_ T b)) := by rw [hS2.out.box.cell b]; exact arr_get T b (by omega)
                have r0 : (0 : Int) ≤ (k : Int) := by omega
                have r1 : (k : Int) < (xs.length : Int) := by omega
                have r2 : ¬ ((b : Int) < 0) := by omega
                have r3 : ¬ ((n : Int) ≤ (b : Int)) := by omega
                have r4 : ¬ (c2.now < at_ T b) := by omega
                have r5 : (0 : Int) ≤ (b : Int) := by omega
                have r6 : (b : Int) < 64 := by omega
                have KN : Hid (∀ d, Calls Try.prog 17 #[.pointer (some ⟨C, 0, Option.none⟩)] (wr.drewN d) fun e w'' => e = .returned (.int .i64 c2.now) ∧ ∃ m, w'' = wr.drewN m) := Lib.hid (fun d => (now_st (hS2.out.below (below_drewN (Below.refl _ _) d))).mono fun e w'' ⟨h1, h2⟩ => ⟨h1, d, h2.symm⟩)
                clear hc
                obtain ⟨tb, htb⟩ : ∃ tb, at_ T b = tb := ⟨_, rfl⟩
                rw [htb] at g0 r4
                have fin : Hid (∀ nq, St w (wr.drewN nq) C G n c2 T ∧ Reps (wr.drewN nq) (some ad) 1 encI xs) := Lib.hid (fun nq => ⟨hS2.out.below (below_drewN (Below.refl _ _) nq), hR2.out.below (below_drewN (Below.refl _ _) nq)⟩)
                have HT := Lib.hid htb
                obtain ⟨cnow, hcn⟩ : ∃ cnow, c2.now = cnow := ⟨_, rfl⟩
                rw [hcn] at r4 KN
                clear hcn htb hbt
                have KA := Lib.hid (fun nq => at_st (fin.out nq).1 b hbn hbo)
                clear hbo
                have r2b : decide ((b : Int) < 0) = false := decide_eq_false r2
                have r3b : decide (n ≤ b) = false := decide_eq_false (by omega)
                have r4b : decide (cnow < tb) = false := decide_eq_false r4
                rcases Nat.eq_zero_or_pos k with hk0 | hk0
                · as_aux_lemma =>
                  have r7 : ¬ ((0 : Int) < (k : Int)) := by omega
                  have r7b : decide (0 < k) = false := decide_eq_false (by omega)
                  have r7c : decide ((0 : Int) < (k : Int)) = false := decide_eq_false r7
                  clear hk0 hx
                  go_wp2
                  refine wp_region_quiet_lit (by kernel_rfl) (by kernel_rfl) ?_
                  repeat (go_big_quiet_step (exact KN.out _))
                  refine wpQuiet_nil ?_
                  rintro _ ⟨nq, rfl⟩
                  go_wp2_with fail
                  refine (KA.out nq).mono ?_
                  rintro e wq ⟨rfl, rfl⟩
                  go_wp2
                  go_roundw
                  case rel => exact ⟨k + 1, by go_num, by omega, Lib.hid (fin.out nq).1, Lib.hid (fin.out nq).2⟩
                  case measure => first | (simp [intOf]; omega) | (simp [intOf]; done)
                · as_aux_lemma =>
                  obtain ⟨p, hp⟩ : ∃ p, k = p + 1 := ⟨k - 1, by omega⟩
                  have hp2 : (k : Int) - 1 = (p : Int) := by omega
                  have r7 : (0 : Int) < (k : Int) := by omega
                  obtain ⟨y, hy⟩ : ∃ y, xs[p]? = some y := ⟨_, List.getElem?_eq_getElem (by omega)⟩
                  obtain ⟨q, rfl, hqn, _, _⟩ := TD.out.each p y hy
                  have hor := TD.out.order p q b hy (by rw [← hp]; exact hx)
                  obtain ⟨ad', e', _, hc⟩ := hR2.out p _ hy
                  obtain rfl : ad = ad' := by simpa using e'
                  have d1 : wr.cell? (ad.add p) = some (.int .i64 q) := by have := hc 0 _ rfl; simpa using this
                  obtain ⟨tq, htq⟩ : ∃ tq, at_ T q = tq := ⟨_, rfl⟩
                  have g1 : wr.cell? ⟨G, q, Option.none⟩ = some (.int .i64 tq) := by rw [← htq, hS2.out.box.cell q]; exact arr_get T q (by omega)
                  have r8 : ¬ (tb < tq) := by rw [← htq, ← HT.out]; omega
                  have r7b : decide (0 < k) = true := decide_eq_true (by omega)
                  have r7c : decide ((0 : Int) < (k : Int)) = true := decide_eq_true r7
                  have r8b : decide (tb < tq) = false := decide_eq_false r8
                  have r9 : (0 : Int) ≤ (q : Int) := by omega
                  have r10 : (q : Int) < 64 := by omega
                  have r11 : (0 : Int) ≤ (p : Int) := by omega
                  have hxl64 := TD.out.len
                  have r13 : (p : Int) ≤ 64 := by omega
                  have r12 : (p : Int) < (xs.length : Int) := by omega
                  clear hc e' hor hp hk0 hx hy htq
                  go_wp2
                  refine wp_region_quiet_lit (by kernel_rfl) (by kernel_rfl) ?_
                  repeat (go_big_quiet_step (exact KN.out _))
                  refine wpQuiet_nil ?_
                  rintro _ ⟨nq, rfl⟩
                  clear hp2 r13 r11 r12 r9 r10 r8 r8b d1 g1 hqn
                  go_wp2_with fail
                  refine (KA.out nq).mono ?_
                  rintro e wq ⟨rfl, rfl⟩
                  go_wp2
                  go_roundw
                  case rel => exact ⟨k + 1, by go_num, by omega, Lib.hid (fin.out nq).1, Lib.hid (fin.out nq).2⟩
                  case measure => first | (simp [intOf]; omega) | (simp [intOf]; done)
              · obtain rfl : k = xs.length := by omega
                go_upto_region 32 with fail
                by_cases hbz : best (c2).A < 0
                · as_aux_lemma =>
                  have KX := Lib.hid (next_st_none hS2.out hbz)
                  go_wp2_with fail
                  refine KX.out.mono ?_
                  rintro e wy ⟨rfl, bz⟩
                  have SY := Lib.hid (hS2.out.below bz)
                  clear bz KX
                  go_wp2
                  go_roundw
                  case rel => exact ⟨i + 1, c2, T, by go_num, by omega, by omega, SY⟩
                  case measure => first | (simp [intOf]; omega) | (simp [intOf]; done)
                · as_aux_lemma =>
                  obtain ⟨bb, hb0, KX⟩ := next_st_some hS2.out hbz
                  have KX := Lib.hid KX
                  have hna : ¬ (at_ (c2).A bb < (c2).now) := by have := hS2.out.inv.ahead bb hb0; omega
                  generalize hab : at_ (c2).A bb = ab at *
                  go_wp2_with fail
                  refine KX.out.mono ?_
                  rintro e wy ⟨rfl, bz⟩
                  have SY := Lib.hid (hS2.out.below bz)
                  clear bz KX
                  go_wp2_with fail
                  refine (now_st SY.out).mono ?_
                  rintro e wz ⟨rfl, rfl⟩
                  go_wp2
                  go_roundw
                  case rel => exact ⟨i + 1, c2, T, by go_num, by omega, by omega, SY⟩
                  case measure => first | (simp [intOf]; omega) | (simp [intOf]; done)
    · rcases (by omega : ((i : Int) < (ops.length : Int) ∧ ¬ (i : Int) < 200) ∨ ¬ (i : Int) < (ops.length : Int)) with ⟨hi2, hi3⟩ | hi2
      all_goals
        have hi4 := hi2
        go_wp2_with fail
        refine (known_calls _).mono ?_
        rintro e w5 ⟨rfl, b5⟩
        have S5 := Lib.hid (hS.out.below b5)
        clear b5
        go_wp2
        go_ret
        exact ⟨rfl, S5.out.clk.bel⟩
end Go.Proofs.Ytiphkgkhfomcaaa.Alarm
