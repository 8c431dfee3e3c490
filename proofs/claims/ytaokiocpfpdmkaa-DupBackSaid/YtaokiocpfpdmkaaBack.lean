/- DupBack: spans above a number, in the window, are told again; so are those below it that came once more, ahead of all others. -/
import Derived.Test.YtaokiocpfpdmkaaBlocks
import Derived.BigQuiet
import Derived.Deep.DeepCutAuto
set_option linter.unusedSimpArgs false
set_option linter.unusedVariables false
attribute [local go_sem ↓] Go.wp_at_zero Go.wp_at_succ
namespace Go.Proofs.Ytaokiocpfpdmkaa.Dups
open Go.BigFrame Go.RowKit Go.OpenShut Go.Proofs.Ytaokiocpfpdmkaa.Aid Go.Proofs.Ytaokiocpfpdmkaa.Spans
open Led (encS encS_len encS_one info26 row_alloc row_drew src_one)
attribute [local go_sem high] eq_spans
structure BackSt (w W : World) (u : Value) (xs : List Span) (d : Span) : Prop where
  row : RowOf 26 2 encS W u xs
  own : ∀ b, u.ownBlock = some b → w.heap.size < b
  box : Blk W w.heap.size 26 #[.int .i64 d.lo, .int .i64 d.hi]
  bel : Below w.heap.size w W
section
variable {w W W' : World} {u u' : Value} {xs xs' : List Span} {d : Span}
theorem BackSt.below (H : BackSt w W u xs d) (hb : Below W.heap.size W W') : BackSt w W' u xs d := ⟨H.row.below hb, H.own, H.box.below hb H.box.lt, below_then H.bel H.bel.size hb⟩
theorem BackSt.app (H : BackSt w W u xs d) (hr : RowOf 26 2 encS W' u' xs') (ha : App W W' u u') : BackSt w W' u' xs' d := by
  have hs := H.bel.size
  have hl := H.box.lt
  refine ⟨hr, fun b e => ?_, (ha.block _ hl (fun e => by have := H.own _ e; omega)).trans H.box, ⟨ha.os.trans H.bel.os, ha.tape.trans H.bel.tape, ha.output.trans H.bel.output, Nat.le_trans hs ha.size, fun k hk => (ha.block k (by omega) (fun e => by have := H.own k e; omega)).trans (H.bel.block k hk)⟩⟩
  rcases ha.own b e with h1 | h1
  · exact H.own b h1
  · omega
end
set_option maxRecDepth 100000 in
set_option maxHeartbeats 8000000 in
theorem back_walk (una ack : Int) (d : Span) (A : Option Addr) (c : Nat) (l : List Span) (w : World) (ab : ack ≤ 9223372036854775807) (hn : l.length ≤ maxLen) (hr : Reps w A 2 encS l) :
    Calls Try.prog 6 #[.int .i64 una, .int .i64 ack, .agg #[.int .i64 d.lo, .int .i64 d.hi], .slice A l.length c] w (Yes w) := by
  have R := Lib.hid hr
  unfold maxLen at hn
  clear hr
  have S0 : Hid (BackSt w (w.alloc (.cells #[.int .i64 d.lo, .int .i64 d.hi] 26)) (.slice Option.none 0 0) [] d) := Lib.hid ⟨.inl ⟨rfl, rfl⟩, fun b e => by simp [Value.ownBlock] at e, Blk.new w 26 _, (Below.refl _ w).alloc (Nat.le_refl _) _⟩
  by_cases hg : una < 0 ∨ 1152921504606846976 < una ∨ ack < una ∨ 4096 < ack - una ∨ 3 < l.length
  · have cases : una < 0 ∨ (¬ una < 0 ∧ 1152921504606846976 < una) ∨ (¬ una < 0 ∧ ¬ 1152921504606846976 < una ∧ ack < una) ∨ (¬ una < 0 ∧ ¬ 1152921504606846976 < una ∧ ¬ ack < una ∧ 4096 < ack - una) ∨ (¬ una < 0 ∧ ¬ 1152921504606846976 < una ∧ ¬ ack < una ∧ ¬ 4096 < ack - una ∧ 3 < (l.length : Int)) := by omega
    clear hg
    rcases cases with h1 | ⟨h1, h2⟩ | ⟨h1, h2, h3⟩ | ⟨h1, h2, h3, h4⟩ | ⟨h1, h2, h3, h4, h5⟩
    all_goals
      go_enter Try.func6, Try.ntmps6
      go_wp2_with fail
      refine (known_calls _).mono ?_
      rintro e w1 ⟨rfl, b1⟩
      have S1 := Lib.hid (S0.out.below b1)
      clear b1
      go_wp2_with fail
      refine (known_calls _).mono ?_
      rintro e w2 ⟨rfl, b2⟩
      go_wp2
      go_ret
      exact ⟨rfl, bn_then S1.out.bel b2⟩
  · have g0 : 0 ≤ una := by omega
    have g1 : una ≤ 1152921504606846976 := by omega
    have g2 : una ≤ ack := by omega
    have g3 : ack - una ≤ 4096 := by omega
    have g4 : l.length ≤ 3 := by omega
    have g5 : (l.length : Int) ≤ 3 := by omega
    clear hg
    have KD := Lib.hid (len_ref d)
    have HZ := Lib.hid (show (plain_spec d) = plain_spec d from rfl)
    clear HZ
    obtain ⟨z, hz⟩ : ∃ z, len d = z := ⟨_, rfl⟩
    have HZ := Lib.hid hz
    rw [hz] at KD
    clear hz
    go_enter Try.func6, Try.ntmps6
    go_wp2_with fail
    refine (known_calls _).mono ?_
    rintro e w1 ⟨rfl, b1⟩
    have S1 := Lib.hid (S0.out.below b1)
    have d0 : w1.cell? ⟨w.heap.size, 0, Option.none⟩ = some (.int .i64 d.lo) := S1.out.box.cell 0
    have d1 : w1.cell? ⟨w.heap.size, 1, Option.none⟩ = some (.int .i64 d.hi) := S1.out.box.cell 1
    clear b1
    go_wp2_with fail
    refine (KD.out _).mono ?_
    rintro e w2 ⟨rfl, b2⟩
    have S2 := Lib.hid (S1.out.below b2)
    clear b2 d0 d1
    have d0 : w2.cell? ⟨w.heap.size, 0, Option.none⟩ = some (.int .i64 d.lo) := S2.out.box.cell 0
    have d1 : w2.cell? ⟨w.heap.size, 1, Option.none⟩ = some (.int .i64 d.hi) := S2.out.box.cell 1
    go_upto_region 7 with fail
    go_cut [10, 56] (fun v10 v56 wx => v10 = .bool (decide (0 < z)) ∧ (v56 = .bool true ∨ (v56 = .bool false ∧ Hid (0 < z → d.hi ≤ ack ∧ z ≤ 4096))) ∧ Hid (BackSt w wx (.slice Option.none 0 0) [] d))
    case first =>
      by_cases hz : 0 < z
      · by_cases h1 : ack < d.hi
        · go_wp2
          go_meet
          exact ⟨by simp [hz], .inl rfl, S2⟩
        · have h2 : d.hi ≤ ack := by omega
          obtain ⟨b, hb⟩ : ∃ b, decide (4096 < z) = b := ⟨_, rfl⟩
          go_wp2_with fail
          refine (KD.out _).mono ?_
          rintro e w3 ⟨rfl, b3⟩
          have S3 := Lib.hid (S2.out.below b3)
          clear b3 d0 d1
          go_wp2
          go_meet
          cases b with
          | true => exact ⟨by simp [hz], .inl (by simp [hz, h2, hb]), S3⟩
          | false => exact ⟨by simp [hz], .inr ⟨by simp [hz, h2, hb], Lib.hid (fun _ => ⟨by omega, by have := of_decide_eq_false hb; omega⟩)⟩, S3⟩
      · go_wp2
        go_meet
        exact ⟨by rw [show decide (0 < z) = false from decide_eq_false (by omega)], .inr ⟨by first | rfl | (simp; done) | (simp; omega), Lib.hid (fun h => by omega)⟩, S2⟩
    case rest =>
      obtain ⟨rfl, hv, HS⟩ := hcut
      clear S2 S1 S0 d0 d1
      rcases hv with rfl | ⟨rfl, HDD⟩
      · go_wp2_with fail
        refine (known_calls _).mono ?_
        rintro e w3 ⟨rfl, b3⟩
        go_wp2
        go_ret
        exact ⟨rfl, bn_then HS.out.bel b3⟩
      · go_wp2
        go_loopw [11, 12] (fun u i wr => ∃ k : Nat, k ≤ l.length ∧ i = .int .i64 k ∧ Hid (BackSt w wr u (l.take k) d) ∧ Hid (∀ s ∈ l.take k, 0 < len s ∧ ack < s.lo ∧ s.hi ≤ una + 65536)) (fun _ i _ => l.length - (intOf i).toNat)
        case atStart => exact ⟨0, by omega, rfl, HS, Lib.hid (by simp)⟩
        case round =>
          obtain ⟨k, hk, rfl, hP, hG⟩ := hrel
          clear HS
          obtain ⟨C, nC, cC, rfl⟩ := hP.out.row.some_slice
          obtain ⟨rfl, _, _⟩ := row_len hP.out.row
          by_cases hlt : k < l.length
          · obtain ⟨s, hs⟩ : ∃ s, l[k]? = some s := ⟨_, List.getElem?_eq_getElem hlt⟩
            obtain ⟨ad, rfl, had, hc⟩ := (R.out.below hP.out.bel) k s hs
            have c0 : wr.cell? (ad.add (k * 2)) = some (.int .i64 s.lo) := hc 0 _ rfl
            have c1 : wr.cell? ⟨(ad.add (k * 2)).block, (ad.add (k * 2)).off + 1, Option.none⟩ = some (.int .i64 s.hi) := (add_next ad (k * 2) 1 (by omega)) ▸ hc 1 _ rfl
            have HX := Lib.hid hs
            have htk : l.take (k + 1) = l.take k ++ [s] := by rw [List.take_succ_eq_append_getElem hlt, (List.getElem?_eq_some_iff.1 hs).2]
            have HT := Lib.hid htk
            have htl : (l.take k).length = k := by rw [List.length_take]; omega
            have HTL := Lib.hid htl
            have KS := Lib.hid (len_ref s)
            have hnn : 0 ≤ len s := by
              have := plain_plain s
              unfold len Plain at *
              omega
            obtain ⟨zs, hzs⟩ : ∃ zs, len s = zs := ⟨_, rfl⟩
            have HZS := Lib.hid hzs
            rw [hzs] at KS hnn
            have k1 : (0 : Int) ≤ (k : Int) := by omega
            have k2 : (k : Int) < (l.length : Int) := by omega
            clear hc hs htk hzs
            generalize (l.take k) = tk at *
            by_cases h0 : zs = 0 ∨ s.lo ≤ ack ∨ una + 65536 < s.hi
            · have cases : zs = 0 ∨ (zs ≠ 0 ∧ s.lo ≤ ack) ∨ (zs ≠ 0 ∧ ¬ s.lo ≤ ack ∧ una + 65536 < s.hi) := by omega
              clear h0 hnn htl
              rcases cases with rfl | ⟨h0, h1⟩ | ⟨h0, h1, h2⟩
              · go_wp2_with fail
                refine (KS.out _).mono ?_
                rintro e w3 ⟨rfl, b3⟩
                have S3 := Lib.hid (hP.out.below b3)
                clear b3 c0 c1
                go_wp2_with fail
                refine (known_calls _).mono ?_
                rintro e w4 ⟨rfl, b4⟩
                go_wp2
                go_ret
                exact ⟨rfl, bn_then S3.out.bel b4⟩
              · have h0' : (zs == 0) = false := by simpa using h0
                go_wp2_with fail
                refine (KS.out _).mono ?_
                rintro e w3 ⟨rfl, b3⟩
                have S3 := Lib.hid (hP.out.below b3)
                have c0 := keep_cells b3 _ _ c0
                have c1 := keep_cells b3 _ _ c1
                clear b3
                go_wp2_with fail
                refine (known_calls _).mono ?_
                rintro e w4 ⟨rfl, b4⟩
                go_wp2
                go_ret
                exact ⟨rfl, bn_then S3.out.bel b4⟩
              · have h0' : (zs == 0) = false := by simpa using h0
                go_wp2_with fail
                refine (KS.out _).mono ?_
                rintro e w3 ⟨rfl, b3⟩
                have S3 := Lib.hid (hP.out.below b3)
                have c0 := keep_cells b3 _ _ c0
                have c1 := keep_cells b3 _ _ c1
                clear b3
                go_wp2_with fail
                refine (known_calls _).mono ?_
                rintro e w4 ⟨rfl, b4⟩
                go_wp2
                go_ret
                exact ⟨rfl, bn_then S3.out.bel b4⟩
            · have h0' : (zs == 0) = false := by simp; omega
              have h1 : decide (s.lo ≤ ack) = false := decide_eq_false (by omega)
              have h2 : decide (una + 65536 < s.hi) = false := decide_eq_false (by omega)
              have h3 : ack < s.lo := by omega
              have h4 : s.hi ≤ una + 65536 := by omega
              obtain ⟨i0, hi, hz0, hz1, hz2⟩ := info_parts info26
              have HG2 : Hid (∀ s ∈ l.take (k + 1), 0 < len s ∧ ack < s.lo ∧ s.hi ≤ una + 65536) := Lib.hid (by
                rw [HT.out]
                intro y hy
                rcases List.mem_append.1 hy with hy | hy
                · exact hG.out y hy
                · rw [List.mem_singleton.1 hy, HZS.out]
                  omega)
              clear h0 hnn htl
              go_wp2_with fail
              refine (KS.out _).mono ?_
              rintro e w3 ⟨rfl, b3⟩
              have S3 := Lib.hid (hP.out.below b3)
              have c0 := keep_cells b3 _ _ c0
              have c1 := keep_cells b3 _ _ c1
              clear b3
              go_wp2_with (at_builtin; refine wpList_append_row (by rfl) _ _ 27 (by rfl) i0 _ 16 Try.underlying27 hi hz0 hz1 hz2 (by decide) (by decide) encS_len encS_one (.slice C tk.length cC) tk (by rfl) (row_alloc S3.out.row _) _ 1 _ [s] rfl (by rfl) (src_one (heap_alloc_new _ _)) ?k5 ?k6 ?k7)
              case k5 => have := HTL.out; unfold maxLen; omega
              case k6 => have := HTL.out; omega
              case k7 =>
                intro v6 w6 hr6 ha6
                have P6 := Lib.hid ((S3.out.below ((Below.refl _ w3).alloc (Nat.le_refl _) _)).app hr6 ha6)
                clear hr6 ha6
                go_wp2
                go_roundw
                case rel => exact ⟨k + 1, by omega, by go_num, Lib.hid (by rw [HT.out]; exact P6.out), HG2⟩
                case measure => simp [intOf]; omega
          · obtain rfl : k = l.length := by omega
            rw [List.take_of_length_le (Nat.le_refl _)] at hP hG ⊢
            have hlen : l.length ≤ 3 := g4
            have HZT : Hid (∀ h : 0 < z, 0 ≤ d.lo ∧ d.lo < d.hi ∧ z = d.hi - d.lo) := Lib.hid (fun h => by
              have h0 := HZ.out
              rcases plain_spec d with ⟨a, b, c, e, f⟩ | ⟨_, e, f⟩
              · exact ⟨a, b, by rw [← h0]; unfold len; rw [e, f]⟩
              · have : len d = 0 := by unfold len; rw [e, f]; rfl
                omega)
            clear hlt hk
            go_upto_region 16 with fail
            go_cut [10, 111] (fun v10 v111 wx => v10 = .bool (decide (0 < z)) ∧ (v111 = .bool true ∨ (v111 = .bool false ∧ Hid (¬ 0 < z → ∀ x y r, l = x :: y :: r → holds y x = false))) ∧ Hid (BackSt w wx (.slice C l.length cC) l d))
            case first =>
              by_cases hz : 0 < z
              · have hzd : decide (0 < z) = true := decide_eq_true hz
                go_region
                all_goals
                  go_wp2
                  go_meet
                  exact ⟨by rw [hzd], .inr ⟨rfl, Lib.hid (fun h => by omega)⟩, Lib.hid ⟨hP.out.row, hP.out.own, hP.out.box, below_drew hP.out.bel⟩⟩
              · have hzd : decide (0 < z) = false := decide_eq_false hz
                by_cases h2 : 1 < l.length
                · obtain ⟨x, y, r, rfl⟩ : ∃ x y r, l = x :: y :: r := by
                    rcases l with _ | ⟨x, _ | ⟨y, r⟩⟩
                    · simp at h2
                    · simp at h2
                    · exact ⟨x, y, r, rfl⟩
                  obtain ⟨ad, rfl, _, _⟩ := (R.out.below hP.out.bel) 0 x rfl
                  have cc : ∀ d os, ∀ (i : Nat) (s : Span) (j : Nat) (v : Value), (x :: y :: r)[i]? = some s → (encS s)[j]? = some v → (Go.Sort.grow (redrawn wr d) os).cell? (ad.add (i * 2 + j)) = some v := fun d os i s j v hs hv => by
                    obtain ⟨ad', e, _, hc⟩ := ((R.out.below hP.out.bel).below (below_regrown wr d os)) i s hs
                    cases e
                    exact hc j v hv
                  have e0 : ∀ d os, (Go.Sort.grow (redrawn wr d) os).cell? ad = some (.int .i64 x.lo) := fun d os => cc d os 0 x 0 _ rfl rfl
                  have e1 : ∀ d os, (Go.Sort.grow (redrawn wr d) os).cell? ⟨ad.block, ad.off + 1, Option.none⟩ = some (.int .i64 x.hi) := fun d os => cc d os 0 x 1 _ rfl rfl
                  have e2 : ∀ d os, (Go.Sort.grow (redrawn wr d) os).cell? ⟨ad.block, ad.off + 2, Option.none⟩ = some (.int .i64 y.lo) := fun d os => cc d os 1 y 0 _ rfl rfl
                  have e3 : ∀ d os, (Go.Sort.grow (redrawn wr d) os).cell? ⟨ad.block, ad.off + 2 + 1, Option.none⟩ = some (.int .i64 y.hi) := fun d os => cc d os 1 y 1 _ rfl rfl
                  have L := Lib.hid (fun d os => Calls.regrown_of (rholds_calls y x (Go.Sort.grow (redrawn wr d) os)))
                  obtain ⟨b, hb⟩ : ∃ b, holds y x = b := ⟨_, rfl⟩
                  have HBB := Lib.hid hb
                  rw [hb] at L
                  have hl1 : (1 : Int) < (r.length : Int) + 1 + 1 := by omega
                  have hl2 : decide ((1 : Int) < (r.length : Int) + 1 + 1) = true := decide_eq_true hl1
                  clear cc hb h2
                  simp only [List.length_cons]
                  refine wp_region_quiet_below (by kernel_rfl) (by kernel_rfl) ?_
                  repeat (go_big_quiet_step (exact L.out _ _))
                  refine wpQuiet_nil ?_
                  rintro _ ⟨⟨nq, osq⟩, rfl⟩
                  go_wp2
                  go_meet
                  refine ⟨by rw [hzd], ?_, Lib.hid (hP.out.below (below_regrown wr nq osq))⟩
                  cases b with
                  | true => exact .inl rfl
                  | false => exact .inr ⟨rfl, Lib.hid (fun _ x' y' r' e => by cases e; exact HBB.out)⟩
                · have hl2 : decide ((1 : Int) < (l.length : Int)) = false := decide_eq_false (by omega)
                  have HL : Hid (∀ x y r, l = x :: y :: r → holds y x = false) := Lib.hid (fun x y r e => by rw [e] at h2; simp at h2)
                  clear h2
                  go_region
                  all_goals
                    go_wp2
                    go_meet
                    exact ⟨by rw [hzd], .inr ⟨rfl, Lib.hid (fun _ => HL.out)⟩, Lib.hid ⟨hP.out.row, hP.out.own, hP.out.box, below_drew hP.out.bel⟩⟩
            case rest =>
              obtain ⟨rfl, hv, HS⟩ := hcut
              clear hP
              rcases hv with rfl | ⟨rfl, HH⟩
              · go_wp2_with fail
                refine (known_calls _).mono ?_
                rintro e w3 ⟨rfl, b3⟩
                go_wp2
                go_ret
                exact ⟨rfl, bn_then HS.out.bel b3⟩
              · have B := Lib.hid (fun W h => blocks_calls 0 d l A c W (by decide) (by decide) (by unfold maxLen; omega) h)
                have hbl : (blocksOf 0 (d :: l)).length ≤ 4 := blocks_len 0 (d :: l) [] (by simp)
                have hbw : ∀ b ∈ blocksOf 0 (d :: l), WfK b := blocks_wf 0 (d :: l) [] (by simp)
                have BK := Lib.hid (fun (hd : 0 < z → ack - d.lo ≤ 1073741824) => back (una := una) (ack := ack) (d := d) (l := l) g0 g1 g2 g3 g4 (fun h => by
                  rw [HZ.out] at h ⊢
                  exact ⟨(HDD.out h).1, (HDD.out h).2, hd h⟩) hG.out (fun h => HH.out (by rw [HZ.out] at h; exact h)))
                have LK := Lib.hid (fun A c W h1 h2 => look_calls una (una + 65536) (ack % 4294967296) A c (blocksOf 0 (d :: l)) W (by omega) (by omega) (by unfold maxLen; omega) (by omega) h1 hbw h2)
                generalize hlk : look una (una + 65536) (ack % 4294967296) (blocksOf 0 (d :: l)) = lk at *
                obtain ⟨T, er⟩ := lk
                clear hlk
                generalize blocksOf 0 (d :: l) = bs at *
                have d0 : wc.cell? ⟨w.heap.size, 0, Option.none⟩ = some (.int .i64 d.lo) := HS.out.box.cell 0
                have d1 : wc.cell? ⟨w.heap.size, 1, Option.none⟩ = some (.int .i64 d.hi) := HS.out.box.cell 1
                go_wp2_with fail
                refine (B.out _ (R.out.below HS.out.bel)).mono ?_
                rintro e w3 ⟨A3, n3, c3, rfl, hr3, rfl, hc3, _, b3⟩
                have S3 := Lib.hid (HS.out.below b3)
                have R3 := Lib.hid (show Reps w3 A3 2 encK bs from by
                  obtain ⟨A', cap, e, _, hR⟩ := hr3.reps encK_len
                  injection e with e1 e2 e3
                  subst e1
                  exact hR)
                clear hr3 b3 d0 d1
                go_wp2_with fail
                refine (LK.out A3 c3 w3 hc3 R3.out).mono ?_
                rintro e w4 ⟨A4, n4, c4, rfl, hr4, ho4, hb4⟩
                have H4 := Lib.hid (held_new 29 S3.out.bel hr4 ho4 hb4)
                have S4 := Lib.hid ((S3.out.below hb4).below ((Below.refl _ w4).alloc (Nat.le_refl _) (.cells (cellsT T (.slice A4 n4 c4)) 29)))
                clear hr4 ho4 hb4
                obtain ⟨ta, ti, td, ts, tb⟩ := T
                unfold cellsT at H4 S4 ⊢
                simp only at H4 S4 ⊢
                go_upto_region 19 with fail
                generalize w4.alloc (.cells #[.int .i64 ta, .bool ti, .int .i64 td.lo, .int .i64 td.hi, .slice A4 n4 c4, .int .i64 tb] 29) = W at *
                generalize w4.heap.size = g at *
                have d0 : W.cell? ⟨w.heap.size, 0, Option.none⟩ = some (.int .i64 d.lo) := S4.out.box.cell 0
                have d1 : W.cell? ⟨w.heap.size, 1, Option.none⟩ = some (.int .i64 d.hi) := S4.out.box.cell 1
                by_cases hz : 0 < z
                · obtain ⟨t1, t2, t3⟩ := HZT.out hz
                  by_cases hfar : 1073741824 < ack - d.lo
                  · go_wp2_with fail
                    refine (known_calls _).mono ?_
                    rintro e w5 ⟨rfl, b5⟩
                    go_wp2
                    go_ret
                    exact ⟨rfl, bn_then S4.out.bel b5⟩
                  · have hfd : decide (1073741824 < ack - d.lo) = false := decide_eq_false hfar
                    have hs1 : -9223372036854775808 ≤ ack - d.lo := by have := (HDD.out hz).1; omega
                    have hs2 : ack - d.lo ≤ 1073741824 := by omega
                    have hb := BK.out (fun _ => by omega)
                    rw [HZ.out, if_pos hz, decide_eq_true hz] at hb
                    obtain ⟨hb1, rfl⟩ := Prod.mk.inj hb
                    injection hb1 with i1 i2 i3 i4 i5
                    subst i1 i2 i3 i4 i5
                    obtain ⟨rfl, hl4, RA⟩ := row_len H4.out.row
                    obtain ⟨_, _, RC⟩ := row_len S4.out.row
                    have KS := Lib.hid (sames_calls ts A4 C c4 cC W (by unfold maxLen; omega) RA RC)
                    have x0 : W.cell? ⟨g, 0, Option.none⟩ = some (.int .i64 ta) := H4.out.box.cell 0
                    have x1 : W.cell? ⟨g, 1, Option.none⟩ = some (.bool true) := H4.out.box.cell 1
                    have x2 : W.cell? ⟨g, 2, Option.none⟩ = some (.int .i64 td.lo) := H4.out.box.cell 2
                    have x3 : W.cell? ⟨g, 3, Option.none⟩ = some (.int .i64 td.hi) := H4.out.box.cell 3
                    have x4 : W.cell? ⟨g, 4, Option.none⟩ = some (.slice A4 ts.length c4) := H4.out.box.cell 4
                    have x5 : W.cell? ⟨g, 5, Option.none⟩ = some (.int .i64 0) := H4.out.box.cell 5
                    clear hb RA RC hl4
                    go_wp2_with fail
                    refine KS.out.mono ?_
                    rintro e w5 ⟨rfl, b5⟩
                    go_wp2_with fail
                    refine (known_calls _).mono ?_
                    rintro e w6 ⟨rfl, b6⟩
                    go_wp2
                    go_ret
                    exact ⟨rfl, bn_then (bn_then S4.out.bel b5) b6⟩
                · have hb := BK.out (fun h => absurd h hz)
                  rw [HZ.out, if_neg hz, decide_eq_false hz] at hb
                  obtain ⟨hb1, rfl⟩ := Prod.mk.inj hb
                  injection hb1 with i1 i2 i3 i4 i5
                  subst i1 i2 i3 i4 i5
                  obtain ⟨rfl, hl4, RA⟩ := row_len H4.out.row
                  obtain ⟨_, _, RC⟩ := row_len S4.out.row
                  have KS := Lib.hid (sames_calls ts A4 C c4 cC W (by unfold maxLen; omega) RA RC)
                  have x0 : W.cell? ⟨g, 0, Option.none⟩ = some (.int .i64 ta) := H4.out.box.cell 0
                  have x1 : W.cell? ⟨g, 1, Option.none⟩ = some (.bool false) := H4.out.box.cell 1
                  have x2 : W.cell? ⟨g, 2, Option.none⟩ = some (.int .i64 0) := H4.out.box.cell 2
                  have x3 : W.cell? ⟨g, 3, Option.none⟩ = some (.int .i64 0) := H4.out.box.cell 3
                  have x4 : W.cell? ⟨g, 4, Option.none⟩ = some (.slice A4 ts.length c4) := H4.out.box.cell 4
                  have x5 : W.cell? ⟨g, 5, Option.none⟩ = some (.int .i64 0) := H4.out.box.cell 5
                  clear hb RA RC hl4
                  go_wp2_with fail
                  refine KS.out.mono ?_
                  rintro e w5 ⟨rfl, b5⟩
                  go_wp2_with fail
                  refine (known_calls _).mono ?_
                  rintro e w6 ⟨rfl, b6⟩
                  go_wp2
                  go_ret
                  exact ⟨rfl, bn_then (bn_then S4.out.bel b5) b6⟩
end Go.Proofs.Ytaokiocpfpdmkaa.Dups
