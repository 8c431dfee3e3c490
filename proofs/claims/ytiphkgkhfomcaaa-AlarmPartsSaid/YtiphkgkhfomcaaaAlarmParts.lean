/- Chapter 13 (alarm): however a time is parted, the same alarms ring: the walk. -/
import Derived.Test.YtiphkgkhfomcaaaPartsP
set_option linter.unusedSimpArgs false
set_option linter.unusedVariables false
attribute [local go_sem ↓] Go.wp_at_zero Go.wp_at_succ
namespace Go.Proofs.Ytiphkgkhfomcaaa.Alarm
open Go.BigFrame Go.RowKit Go.OpenShut Go.Proofs.Ytiphkgkhfomcaaa.Aid Go.Proofs.Ytiphkgkhfomcaaa.DMap Go.Proofs.Ytiphkgkhfomcaaa.Heap
set_option maxRecDepth 100000 in
set_option maxHeartbeats 8000000 in
theorem parts_walk (B : Option Addr) (cap : Nat) (ops : List OpV) (P : Option Addr) (cap2 : Nat) (parts : List Int) (w : World) (hB : Reps w B 3 encO ops) (ho : ∀ o ∈ ops, OpOk o) (hl : ops.length ≤ 9223372036854775807) (hP : Reps w P 1 (fun x => [.int .u16 x]) parts) (hw : ∀ x ∈ parts, 0 ≤ x ∧ x ≤ 65535) (hl2 : parts.length ≤ 9223372036854775807) :
    Calls Try.prog 4 #[.slice B ops.length cap, .slice P parts.length cap2] w (Gives w (.bool true)) := by
  obtain ⟨i0, hi, hz0, hz1, hz2⟩ := info_parts info3
  have HB := Lib.hid hB
  have HO := Lib.hid ho
  have HP := Lib.hid hP
  have HW := Lib.hid hw
  clear hB ho hP hw
  by_cases hp0 : parts.length = 0
  · have hp1 : (parts.length : Int) = 0 := by omega
    go_enter Try.func4, Try.ntmps4
    go_wp2_with fail
    refine (known_calls w).mono ?_
    rintro e w1 ⟨rfl, b1⟩
    have B1 := Lib.hid b1
    clear b1
    go_wp2_with fail
    refine (known_calls w1).mono ?_
    rintro e w2 ⟨rfl, b2⟩
    have B2 := Lib.hid (below_then B1.out B1.out.size b2)
    clear b2
    go_wp2
    go_ret
    exact ⟨rfl, B2.out⟩
  · have hp1 : ¬ ((parts.length : Int) = 0) := by omega
    go_enter Try.func4, Try.ntmps4
    go_wp2_with fail
    refine (known_calls w).mono ?_
    rintro e w1 ⟨rfl, b1⟩
    have B1 := Lib.hid b1
    clear b1
    go_wp2_with fail
    refine (new_has 16 w w1 (by omega) (by omega) B1.out).mono ?_
    rintro e w2 ⟨C, rfl, h2⟩
    have H2 := Lib.hid h2
    clear h2
    go_wp2
    go_loopw [7] (fun iv wr => ∃ (i : Nat) (A : List Int), iv = .int .i64 i ∧ i ≤ 60 ∧ i ≤ ops.length ∧ Hid (HasC w wr C ⟨0, A⟩)) (fun iv _ => 60 - (intOf iv).toNat)
    case atStart => exact ⟨0, (fresh 16).A, rfl, by omega, by omega, H2⟩
    case round =>
      as_aux_lemma =>
      obtain ⟨i, A, rfl, hi60, hil, hS⟩ := hrel
      clear H2
      by_cases hlt : i < 60 ∧ i < ops.length
      · obtain ⟨o, hoi⟩ : ∃ o, ops[i]? = some o := ⟨_, List.getElem?_eq_getElem hlt.2⟩
        obtain ⟨oa, oe, hol0, hc0, hc1, hc2⟩ := rops HB.out i o hoi
        subst oe
        obtain ⟨oi1, oi2, oi3, oi4⟩ := HO.out o (List.mem_of_getElem? hoi)
        have hi1 : (i : Int) < 60 := by omega
        have hi2 : (i : Int) < (ops.length : Int) := by omega
        have hi3 : (0 : Int) ≤ (i : Int) := by omega
        obtain ⟨ok, onm, on⟩ := o
        simp only at oi1 oi2 oi3 oi4 hc0 hc1 hc2
        have hob := add_block oa (i * 3)
        rw [hob] at hc1 hc2
        have AT : Hid (∀ W, Below w.heap.size w W → W.cell? (oa.add (i * 3)) = some (.int .u8 ok) ∧ W.cell? ⟨oa.block, (oa.add (i * 3)).off + 1, Option.none⟩ = some (.int .i64 onm) ∧ W.cell? ⟨oa.block, (oa.add (i * 3)).off + 2, Option.none⟩ = some (.int .i64 on)) :=
          Lib.hid (fun W hW => ⟨(hW.cell (p := oa.add (i * 3)) (by rw [hob]; exact hol0)).trans hc0, (hW.cell (p := ⟨oa.block, (oa.add (i * 3)).off + 1, Option.none⟩) hol0).trans hc1, (hW.cell (p := ⟨oa.block, (oa.add (i * 3)).off + 2, Option.none⟩) hol0).trans hc2⟩)
        clear hc0 hc1 hc2 hol0
        obtain ⟨d0, d1, d2⟩ := AT.out wr hS.out.bel
        have hkm : ok.tmod 3 = ok % 3 := Int.tmod_eq_emod_of_nonneg oi1
        by_cases hk2 : ok % 3 = 2
        · have hkk : ok.tmod 3 = 2 := by omega
          clear hkm hk2
          go_wp2
          go_roundw
          case rel => exact ⟨i + 1, A, by go_num, by omega, by omega, hS⟩
          case measure => simp [intOf]; omega
        · have hkk : ¬ (ok.tmod 3 = 2) := by omega
          have HK := Lib.hid (And.intro oi1 (And.intro hk2 oi3))
          have hkb : (ok % 3 != 2) = true := by simpa using hk2
          clear hkm
          go_upto_region 12 with fail
          go_region_held3 (fun W => W.cell? (oa.add (i * 3)) = some (.int .u8 ok) ∧ W.cell? ⟨oa.block, (oa.add (i * 3)).off + 1, Option.none⟩ = some (.int .i64 onm) ∧ W.cell? ⟨oa.block, (oa.add (i * 3)).off + 2, Option.none⟩ = some (.int .i64 on)) (go_keep) (first | (go_at_call 20; refine (rnew_calls 16 _ (by omega)).mono ?_; rintro e w5 ⟨v', rfl, r5⟩; obtain ⟨d05, d15, d25⟩ := AT.out w5 (below_then (below_drew hS.out.bel) hS.out.bel.size r5.2.1); obtain ⟨A5, n5, c5, rfl⟩ := r5.1.some_slice; have R5 := Lib.hid r5; clear r5) | (go_at_call 19; refine (does_has hS.out ok onm on HK.out.1 HK.out.2.1 HK.out.2.2 (below_drew (Below.refl _ _)) R5.out).mono ?_; rintro e w6 ⟨⟨x, rfl⟩, A6, h6⟩; obtain ⟨d06, d16, d26⟩ := AT.out w6 h6.bel; have H6 := Lib.hid h6; clear h6))
          all_goals
            go_wp2
            go_roundw
            case rel => exact ⟨i + 1, A6, by go_num, by omega, by omega, H6⟩
            case measure => simp [intOf]; omega
      · rcases (by omega : ((i : Int) < (ops.length : Int) ∧ ¬ (i : Int) < 60) ∨ ¬ (i : Int) < (ops.length : Int)) with ⟨hi2, hi3⟩ | hi2
        all_goals
          have hi4 := hi2
          obtain ⟨Bc, h1, h2, h3⟩ := hS.out
          have KC := Lib.hid (clone_calls Bc C ⟨0, A⟩ wr h1)
          clear h1 h2 h3
          go_wp2_with fail
          refine KC.out.mono ?_
          rintro e w5 ⟨D, Bd, rfl, h5, h6, h7⟩
          have S5 := Lib.hid (ps_new hS.out h5 h6 h7)
          clear h5 h6 h7 KC
          go_wp2
          go_loopw [9, 10, 11] (fun sv lv kv wr => ∃ (k : Nat) (S : Int) (A1 xs : List Int) (Av : Option Addr) (cv : Nat), sv = .int .i64 S ∧ lv = .slice Av xs.length cv ∧ kv = .int .i64 k ∧ k ≤ 60 ∧ k ≤ parts.length ∧ 0 ≤ S ∧ S ≤ 65535 * k ∧ xs.length ≤ 64 ∧ Hid (PS w wr C D A A1 S (.slice Av xs.length cv) xs xs k)) (fun _ _ kv _ => 60 - (intOf kv).toNat)
          case atStart => exact ⟨0, 0, A, [], Option.none, 0, rfl, rfl, rfl, by omega, by omega, by omega, by omega, by simp, S5⟩
          case round =>
            as_aux_lemma =>
            obtain ⟨k, S, A1, xs, Av, cv, rfl, rfl, rfl, hk60, hkl, hS0, hS1, hx64, hP2⟩ := hrel
            clear S5
            by_cases hlt2 : k < 60 ∧ k < parts.length
            · obtain ⟨p, hpk⟩ : ∃ p, parts[k]? = some p := ⟨_, List.getElem?_eq_getElem hlt2.2⟩
              obtain ⟨pa, rfl, hpl, hpc⟩ := HP.out k p hpk
              obtain ⟨hp3, hp4⟩ := HW.out p (List.mem_of_getElem? hpk)
              have PC : Hid (∀ W, Below w.heap.size w W → W.cell? (pa.add k) = some (.int .u16 p)) := Lib.hid (fun W hW => (hW.cell (p := pa.add k) (by rw [add_block]; exact hpl)).trans (by have := hpc 0 _ rfl; simpa using this))
              have p0 := PC.out wr hP2.out.bel
              have KA := Lib.hid (advance_ps hP2.out (p := p) hp3 (by omega))
              have hk1 : (k : Int) < 60 := by omega
              have hk2 : (k : Int) < (parts.length : Int) := by omega
              have hk3 : (0 : Int) ≤ (k : Int) := by omega
              clear hpc hpl hpk
              go_wp2_with fail
              refine KA.out.mono ?_
              rintro e w5 ⟨vl, ys, A2, rfl, r5, p5, hz64⟩
              obtain ⟨Al, cl, rfl, _, hRl⟩ := r5.reps encI_len
              have hAl := row_nil r5
              have R5 := Lib.hid hRl
              have P5 := Lib.hid p5
              clear p0 r5 hRl p5 KA
              have hyl : ys.length ≤ 64 := by rw [List.length_append] at hz64; omega
              go_wp2_with (at_builtin; refine wpList_append_any (by rfl) _ _ 33 (by rfl) i0 _ 8 Try.underlying33 hi hz0 hz1 hz2 (by decide) (by decide) encI_len encI_one (.slice Av xs.length cv) xs (by rfl) P5.out.row Al ys.length cl ys rfl (by rfl) hAl R5.out ?k2 ?k3 ?k4)
              case k2 => unfold maxLen; omega
              case k3 => omega
              case k4 =>
                intro v' w6 hr ha
                obtain ⟨A6, c6, rfl, _⟩ := hr.slice
                have P6 := Lib.hid (ps_app P5.out ha hr)
                have p0 := PC.out w6 P6.out.bel
                clear hr ha
                go_wp2
                go_roundw
                case rel => exact ⟨k + 1, S + p, A2, xs ++ ys, A6, c6, by go_num, rfl, by go_num, by omega, by omega, by omega, by omega, hz64, P6⟩
                case measure => simp [intOf]; omega
            · have hk1 : 1 ≤ k := by omega
              have KD := Lib.hid (advance_pd hP2.out hk1 hS0 (by omega))
              rcases (by omega : ((k : Int) < (parts.length : Int) ∧ ¬ (k : Int) < 60) ∨ ¬ (k : Int) < (parts.length : Int)) with ⟨hk2, hk3⟩ | hk2
              all_goals
                have hk4 := hk2
                go_wp2_with fail
                refine KD.out.mono ?_
                rintro e w5 ⟨vb, rfl, rb, rx, hc, hd⟩
                obtain ⟨Ab, cb2, rfl, _, hRb⟩ := rb.reps encI_len
                obtain ⟨Ax, cx, hx1, _, hRx⟩ := rx.reps encI_len
                injection hx1 with hx2 hx3 hx4
                subst hx2
                have KS := Lib.hid (same_n Av Ab cv cb2 xs.length xs.length xs w5 hRx hRb rfl rfl (by omega))
                have HC := Lib.hid hc
                have HD := Lib.hid hd
                clear rb rx hc hd hRb hRx hx3 hx4
                go_wp2_with fail
                refine KS.out.mono ?_
                rintro e w6 ⟨rfl, b6⟩
                have C6 := Lib.hid (HC.out.below b6)
                have D6 := Lib.hid (HD.out.below b6)
                clear b6
                go_wp2_with fail
                refine (now_has C6.out).mono ?_
                rintro e w7 ⟨rfl, rfl⟩
                go_wp2_with fail
                refine (now_has D6.out).mono ?_
                rintro e w7 ⟨rfl, rfl⟩
                go_wp2_with fail
                refine (len_has C6.out).mono ?_
                rintro e w7 ⟨rfl, rfl⟩
                go_wp2_with fail
                refine (len_has D6.out).mono ?_
                rintro e w7 ⟨rfl, rfl⟩
                go_wp2_with fail
                refine (known_calls _).mono ?_
                rintro e w7 ⟨rfl, b7⟩
                have C7 := Lib.hid (C6.out.below b7)
                clear b7
                go_wp2
                go_ret
                exact ⟨rfl, C7.out.bel⟩
end Go.Proofs.Ytiphkgkhfomcaaa.Alarm
