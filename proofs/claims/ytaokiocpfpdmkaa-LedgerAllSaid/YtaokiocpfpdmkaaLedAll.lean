/- LedgerAll: if just what was sent once more comes once more, in any order, all is let go, and what the window was ahead of the first cut is told. -/
import Derived.Test.YtaokiocpfpdmkaaLedFar
import Derived.Deep.RegionHeld3
import Derived.Deep.DrawnRows
import Derived.BigRegion
set_option linter.unusedSimpArgs false
set_option linter.unusedVariables false
attribute [local go_sem ↓] Go.wp_at_zero Go.wp_at_succ
namespace Go.Proofs.Ytaokiocpfpdmkaa.Led
open Go.BigFrame Go.RowKit Go.OpenShut Go.Proofs.Ytaokiocpfpdmkaa.Aid Go.Proofs.Ytaokiocpfpdmkaa.Spans
attribute [local go_sem] max_2 min_2 max2_i min2_i
def encU (x : Int) : List Value := [.int .u8 x]
set_option maxRecDepth 100000 in
set_option maxHeartbeats 8000000 in
theorem all_walk (A : Option Addr) (c : Nat) (l : List Span) (B : Option Addr) (d : Nat) (turn : List Int) (cw th : Int) (w : World) (hn : l.length ≤ maxLen) (hm : turn.length ≤ maxLen)
    (ht : ∀ x ∈ turn, 0 ≤ x ∧ x ≤ 255) (hr : Aid.Reps w A 2 encS l) (hr2 : Aid.Reps w B 1 encU turn) :
    Calls Try.prog 8 #[.slice A l.length c, .slice B turn.length d, .int .i64 cw, .int .i64 th] w (Yes w) := by
  unfold maxLen at hn hm
  obtain ⟨i0, hi, hz0, hz1, hz2⟩ := info_parts info26
  have R := Lib.hid hr
  have R2 := Lib.hid hr2
  have HT := Lib.hid ht
  clear hr hr2 ht
  go_enter Try.func8, Try.ntmps8
  go_wp2_with fail
  refine (known_calls _).mono ?_
  rintro e w1 ⟨rfl, b1⟩
  go_wp2_with fail
  refine (new_calls _).mono ?_
  rintro e w2 ⟨rfl, hL, b2, hg, hlt⟩
  have S2 : St w w2 w1.heap.size (.slice none 0 0) ⟨false, 0, 0, [], false⟩ := ⟨hL, b1.size, by simp [Value.ownBlock], below_then b1 b1.size b2⟩
  have A2 : Hid (Sent w w1.heap.size 0 (.slice none 0 0) w2) := Lib.hid ⟨_, _, ⟨S2, .inl ⟨rfl, rfl⟩, by simp [Value.ownBlock]⟩, ⟨rfl, trivial, by simp⟩, rfl, rfl⟩
  generalize w1.heap.size = g at *
  clear hL b2 hg b1 S2 hlt
  clear w1
  go_wp2
  go_loopw [10, 11] (fun u i wr => ∃ (k : Nat), k ≤ l.length ∧ k ≤ 256 ∧ i = .int .i64 k ∧ Hid (Sent w g k u wr)) (fun _ i _ => 256 - (intOf i).toNat)
  case atStart => exact ⟨0, by omega, by omega, rfl, A2⟩
  case round =>
    obtain ⟨k, hk, hk2, rfl, hA⟩ := hrel
    clear A2
    have kk2 : (k : Int) ≤ 256 := by omega
    by_cases hlt : k < l.length ∧ k < 256
    · obtain ⟨hlt, hlt2⟩ := hlt
      have hs2 : (k : Int) < 256 := by omega
      obtain ⟨x, hx⟩ : ∃ x, l[k]? = some x := ⟨_, List.getElem?_eq_getElem hlt⟩
      obtain ⟨v, L, hP, hG, ho, hsp⟩ := hA.out
      obtain ⟨ad, rfl, had, hc⟩ := (R.out.below hP.st.bel) k x hx
      have c0 : wr.cell? (ad.add (k * 2)) = some (.int .i64 x.lo) := hc 0 _ rfl
      have c1 : wr.cell? ⟨(ad.add (k * 2)).block, (ad.add (k * 2)).off + 1, none⟩ = some (.int .i64 x.hi) := (add_next ad (k * 2) 1 (by omega)) ▸ hc 1 _ rfl
      have HX := Lib.hid hx
      have HG := Lib.hid hG
      have HP := Lib.hid hP
      have HO := Lib.hid ho
      have HSP := Lib.hid hsp
      clear hA hc hx hG hP ho hsp
      have K := Lib.hid (len_ref x)
      generalize len x = z at K
      go_wp2_with fail
      refine (K.out _).mono ?_
      rintro e w3 ⟨rfl, b3⟩
      have P3 := Lib.hid (HP.out.below b3)
      obtain ⟨uA, un, uc, rfl⟩ := HP.out.row.some_slice
      have G4 : Good (k + 1) (L.list ++ [⟨100 * (k : Int), 100 * (k : Int) + 1 + max 0 (min z 99)⟩]) := HG.out.snoc rfl (by simp only; omega) (by simp only; omega) hlt2
      have HG4 := Lib.hid G4
      have hfine : Fine ⟨100 * (k : Int), 100 * (k : Int) + 1 + max 0 (min z 99)⟩ := ⟨by simp only; omega, by simp only; omega, by simp only; omega⟩
      have HF := Lib.hid hfine
      clear b3 G4 hfine c0 c1
      go_wp2_with fail
      refine (again_ok g v L ⟨100 * (k : Int), 100 * (k : Int) + 1 + max 0 (min z 99)⟩ _ P3.out.st.led (fine_len HF.out) (by rw [HG.out.len]; omega)).mono ?_
      intro e w4 d4
      obtain ⟨rfl, v4, P4⟩ := P3.out.does d4
      obtain ⟨ad', e', _, hc⟩ := (R.out.below P4.st.bel) k x HX.out
      cases e'
      have c0 : w4.cell? (ad.add (k * 2)) = some (.int .i64 x.lo) := hc 0 _ rfl
      have c1 : w4.cell? ⟨(ad.add (k * 2)).block, (ad.add (k * 2)).off + 1, none⟩ = some (.int .i64 x.hi) := (add_next ad (k * 2) 1 (by omega)) ▸ hc 1 _ rfl
      have HP4 := Lib.hid P4
      clear d4 P4 hc
      go_wp2_with fail
      refine (K.out _).mono ?_
      rintro e w5 ⟨rfl, b5⟩
      have P5 := Lib.hid (HP4.out.below b5)
      clear b5 c0 c1
      go_wp2_with (at_builtin; refine wpList_append_row (by rfl) _ _ 27 (by rfl) i0 _ 16 Try.underlying27 hi hz0 hz1 hz2 (by decide) (by decide) encS_len encS_one (.slice uA un uc) L.list (by rfl) (row_alloc P5.out.row _) _ 1 _ [⟨100 * (k : Int), 100 * (k : Int) + 1 + max 0 (min z 99)⟩] rfl (by rfl) (src_one (heap_alloc_new _ _)) ?k5 ?k6 ?k7)
      case k5 => have := HG.out.len; unfold maxLen; omega
      case k6 => have := HG.out.len; omega
      case k7 =>
        intro v6 w6 hr6 ha6
        obtain ⟨A6, n6, c6, rfl⟩ := hr6.some_slice
        have P6 := Lib.hid ((P5.out.below ((Below.refl _ w5).alloc (Nat.le_refl _) _)).app (M' := ⟨L.opn, L.cwnd, L.thresh, L.list ++ [⟨100 * (k : Int), 100 * (k : Int) + 1 + max 0 (min z 99)⟩], L.spilt⟩) hr6 ha6)
        clear hr6 ha6
        go_wp2
        go_roundw
        case rel => exact ⟨k + 1, by omega, by omega, by go_num, Lib.hid ⟨_, _, P6.out, HG4.out, HO.out, HSP.out⟩⟩
        case measure => simp [intOf]; omega
    · have hex : ¬ (k : Int) < (l.length : Int) ∨ ((k : Int) < (l.length : Int) ∧ ¬ (k : Int) < 256) := by omega
      obtain ⟨v, L, hP, hG, ho, hsp⟩ := hA.out
      obtain ⟨uA, uc, rfl, hcap⟩ := hP.row.slice
      have hlen := hG.len
      have HG := Lib.hid hG
      have HP : Hid (∃ xs, Pair w wr g v (.slice uA L.list.length uc) L ⟨false, 0, 0, xs, false⟩ ∧ xs.Perm L.list) := Lib.hid ⟨L.list, hP.again rfl, List.Perm.refl _⟩
      have HO := Lib.hid ho
      have HSP := Lib.hid hsp
      clear hA hG hP ho hsp hlt
      rcases hex with hex | ⟨hex, hex2⟩
      all_goals
        subst hlen
        go_wp2
        go_loopw [12] (fun i wr => ∃ (j : Nat), j ≤ turn.length ∧ j ≤ L.list.length ∧ i = .int .i64 j ∧ Hid (∃ xs, Pair w wr g v (.slice uA L.list.length uc) L ⟨false, 0, 0, xs, false⟩ ∧ xs.Perm L.list)) (fun i _ => L.list.length - (intOf i).toNat)
        case atStart => exact ⟨0, by omega, by omega, rfl, HP⟩
        case round =>
          obtain ⟨j, hj, hj2, rfl, hB⟩ := hrel
          clear HP
          by_cases hlt : j < turn.length ∧ j < L.list.length
          · obtain ⟨hlt, hlt2⟩ := hlt
            obtain ⟨xs, hP, hperm⟩ := hB.out
            obtain ⟨t, htj⟩ : ∃ t, turn[j]? = some t := ⟨_, List.getElem?_eq_getElem hlt⟩
            obtain ⟨t0, t1⟩ := HT.out t (List.mem_of_getElem? htj)
            obtain ⟨ad, rfl, had, hc⟩ := (R2.out.below hP.st.bel) j t htj
            have c0 : wr.cell? (ad.add (j * 1)) = some (.int .u8 t) := hc 0 _ rfl
            rw [Nat.mul_one] at c0
            obtain ⟨m, hm1, hm2⟩ : ∃ m : Nat, t % (L.list.length : Int) = (m : Int) ∧ m < L.list.length := ⟨(t % (L.list.length : Int)).toNat, by
              have := Int.emod_nonneg t (show (L.list.length : Int) ≠ 0 by omega)
              omega, by
              have := Int.emod_lt_of_pos t (show 0 < (L.list.length : Int) by omega)
              have := Int.emod_nonneg t (show (L.list.length : Int) ≠ 0 by omega)
              omega⟩
            have hxl : xs.length = L.list.length := hperm.length_eq
            obtain ⟨b, rfl⟩ : ∃ b, uA = some ⟨b, 0, Option.none⟩ := by
              obtain ⟨h0, h1⟩ | ⟨b, _, _, h0, _⟩ := hP.row
              · simp only at h1
                rw [h1] at hxl
                simp at hxl
                omega
              · injection h0 with h0 _ _
                exact ⟨b, h0⟩
            obtain ⟨x, hx⟩ : ∃ x, xs[j]? = some x := ⟨_, List.getElem?_eq_getElem (by omega)⟩
            obtain ⟨y, hy⟩ : ∃ y, xs[m]? = some y := ⟨_, List.getElem?_eq_getElem (by omega)⟩
            have x0 : wr.cell? ⟨b, j * 2, Option.none⟩ = some (.int .i64 x.lo) := hP.row.cell encS_len (j * 2 + 0) _ (flat_get encS 2 encS_len xs j x 0 _ hx rfl)
            have x1 : wr.cell? ⟨b, j * 2 + 1, Option.none⟩ = some (.int .i64 x.hi) := hP.row.cell encS_len (j * 2 + 1) _ (flat_get encS 2 encS_len xs j x 1 _ hx rfl)
            have y0 : wr.cell? ⟨b, m * 2, Option.none⟩ = some (.int .i64 y.lo) := hP.row.cell encS_len (m * 2 + 0) _ (flat_get encS 2 encS_len xs m y 0 _ hy rfl)
            have y1 : wr.cell? ⟨b, m * 2 + 1, Option.none⟩ = some (.int .i64 y.hi) := hP.row.cell encS_len (m * 2 + 1) _ (flat_get encS 2 encS_len xs m y 1 _ hy rfl)
            have fz : ∀ o, wr.frozen? ⟨b, o, Option.none⟩ = false := by
              obtain ⟨h0, h1⟩ | ⟨b', _, _, h0, _, _, h3, _⟩ := hP.row
              · cases h0
              · injection h0 with h0 _ _
                obtain rfl : b = b' := by simpa using h0
                exact fun o => Blk.frozen h3 o
            have HX := Lib.hid hx
            have HY := Lib.hid hy
            have HPP := Lib.hid hP
            have HPM := Lib.hid hperm
            have k1 : (0 : Int) ≤ (j : Int) := by omega
            have k2 : (j : Int) < (L.list.length : Int) := by omega
            have k3 : (0 : Int) ≤ (m : Int) := by omega
            have k4 : (m : Int) < (L.list.length : Int) := by omega
            have k5 : (L.list.length : Int) ≤ 256 := by omega
            clear hB hP hperm hc hx hy htj
            go_wp2
            rw [hm1]
            clear hm1 t0 t1
            obtain ⟨q0, e0⟩ := cell?_setCell_some (w := wr) (p := ⟨b, j * 2, Option.none⟩) (x := .int .i64 y.lo) (q := ⟨b, m * 2, Option.none⟩) y0
            obtain ⟨q1, e1⟩ := cell?_setCell_some (w := wr) (p := ⟨b, j * 2 + 1, Option.none⟩) (x := .int .i64 y.hi) (q := ⟨b, m * 2 + 1, Option.none⟩) y1
            obtain ⟨q2, e2⟩ := cell?_setCell_some (w := wr) (p := ⟨b, j * 2, Option.none⟩) (x := .int .i64 y.lo) (q := ⟨b, m * 2 + 1, Option.none⟩) y1
            obtain ⟨q3, e3⟩ := cell?_setCell_some (w := wr.setCell ⟨b, j * 2, Option.none⟩ (.int .i64 y.lo)) (p := ⟨b, j * 2 + 1, Option.none⟩) (x := .int .i64 y.hi) (q := ⟨b, m * 2 + 1, Option.none⟩) e2
            have hrow : RowOf 26 2 encS wr (.slice (some ⟨b, 0, Option.none⟩) L.list.length uc) xs := HPP.out.row
            have RR := Lib.hid (row_put (row_put hrow j y (by omega)) m x (by rw [List.length_set]; omega))
            clear hrow
            have AA := Lib.hid (app_set (app_set (app_set (app_set (app_refl wr (.slice (some ⟨b, 0, Option.none⟩) L.list.length uc)) (j * 2) (.int .i64 y.lo)) (j * 2 + 1) (.int .i64 y.hi)) (m * 2) (.int .i64 x.lo)) (m * 2 + 1) (.int .i64 x.hi))
            have HN : Hid (((xs.set j y).set m x).Perm L.list) := Lib.hid ((perm_set_set xs j m x y HX.out HY.out).trans HPM.out)
            go_region
            all_goals
              have RP := Lib.hid (HPP.out.app (M' := ⟨false, 0, 0, (xs.set j y).set m x, false⟩) (row_drew RR.out) (app_drew AA.out))
              clear e0 e1 e2 e3 x0 x1 y0 y1 fz c0
              go_wp2
              go_roundw
              case rel => exact ⟨j + 1, by omega, by omega, by go_num, Lib.hid ⟨_, RP.out, HN.out⟩⟩
              case measure => simp [intOf]; omega
          · have hex2 : ¬ (j : Int) < (turn.length : Int) ∨ ((j : Int) < (turn.length : Int) ∧ ¬ (j : Int) < (L.list.length : Int)) := by omega
            obtain ⟨xs, hP, hperm⟩ := hB.out
            have HPP := Lib.hid hP
            have HPM := Lib.hid hperm
            have KC1 := Lib.hid (cut_yes g v L cw th wr hP.st.led HO.out)
            clear hB hP hperm
            rcases hex2 with hex2 | ⟨hex2, hex3⟩
            all_goals
              go_wp2_with fail
              refine KC1.out.mono ?_
              intro e w3 d3
              obtain ⟨rfl, v3, P3⟩ := HPP.out.does d3
              have HP3 := Lib.hid P3
              clear d3 P3
              go_wp2_with fail
              refine (cut_no g v3 _ 1 2 w3 HP3.out.st.led rfl).mono ?_
              rintro e w4 ⟨rfl, rfl⟩
              have HL : Hid (∃ v' L', Pair w w3 g v' (.slice uA L.list.length uc) L' ⟨false, 0, 0, xs, false⟩ ∧ L'.list.Perm (xs.drop 0) ∧ Far L'.list ∧ (∀ x ∈ L'.list, Fine x) ∧ L'.opn = true ∧ L'.spilt = false ∧ L'.cwnd = cw ∧ L'.thresh = th) := Lib.hid ⟨_, _, HP3.out, HPM.out.symm, HG.out.far, fun x hx => (HG.out.fine x hx).1, rfl, HSP.out, rfl, rfl⟩
              have HXN := Lib.hid (show L.list.length = xs.length from HPM.out.length_eq.symm)
              clear HP3
              go_wp2
              go_loopw [14] (fun i wr => ∃ (i0 : Nat), i0 ≤ L.list.length ∧ i = .int .i64 i0 ∧ Hid (∃ v' L', Pair w wr g v' (.slice uA L.list.length uc) L' ⟨false, 0, 0, xs, false⟩ ∧ L'.list.Perm (xs.drop i0) ∧ Far L'.list ∧ (∀ x ∈ L'.list, Fine x) ∧ L'.opn = true ∧ L'.spilt = false ∧ L'.cwnd = cw ∧ L'.thresh = th)) (fun i _ => L.list.length - (intOf i).toNat)
              case atStart => exact ⟨0, by omega, rfl, HL⟩
              case round =>
                obtain ⟨i, hi2, rfl, hC⟩ := hrel
                clear HL
                by_cases hlt : i < L.list.length
                · obtain ⟨v4, L4, hP, hpm, hfar, hfine, ho4, hs4, hc4, ht4⟩ := hC.out
                  obtain ⟨s, hs⟩ : ∃ s, xs[i]? = some s := ⟨_, List.getElem?_eq_getElem (by have := HXN.out; omega)⟩
                  have hdrop : xs.drop i = s :: xs.drop (i + 1) := by
                    rw [List.drop_eq_getElem_cons (by have := HXN.out; omega)]
                    rw [(List.getElem?_eq_some_iff.1 hs).2]
                  rw [hdrop] at hpm
                  have hmem : s ∈ L4.list := hpm.mem_iff.2 List.mem_cons_self
                  obtain ⟨g1, g2, g3⟩ := goes_far s L4.list hfar hmem
                  have hne : L4.list ≠ [] := fun e => by rw [e] at hmem; cases hmem
                  have hs0 := fine_len (hfine s hmem)
                  have HPM2 : Hid ((goes s L4.list).Perm (xs.drop (i + 1)) ∧ Far (goes s L4.list) ∧ (∀ x ∈ goes s L4.list, Fine x)) := Lib.hid (by
                    rw [g1]
                    refine ⟨by simpa using hpm.erase s, g3, fun x hx => hfine x (List.mem_of_mem_erase hx)⟩)
                  have hrow : RowOf 26 2 encS wr (.slice uA L.list.length uc) xs := hP.row
                  obtain ⟨b, rfl⟩ : ∃ b, uA = some ⟨b, 0, Option.none⟩ := by
                    obtain ⟨h0, h1⟩ | ⟨b, _, _, h0, _⟩ := hrow
                    · rw [h1] at hs
                      simp at hs
                    · injection h0 with h0 _ _
                      exact ⟨b, h0⟩
                  have x0 : wr.cell? ⟨b, i * 2, Option.none⟩ = some (.int .i64 s.lo) := hrow.cell encS_len (i * 2 + 0) _ (flat_get encS 2 encS_len xs i s 0 _ hs rfl)
                  have x1 : wr.cell? ⟨b, i * 2 + 1, Option.none⟩ = some (.int .i64 s.hi) := hrow.cell encS_len (i * 2 + 1) _ (flat_get encS 2 encS_len xs i s 1 _ hs rfl)
                  have HP4 := Lib.hid hP
                  have HE := Lib.hid (show L4.opn = true ∧ L4.spilt = false ∧ L4.cwnd = cw ∧ L4.thresh = th from ⟨ho4, hs4, hc4, ht4⟩)
                  have KU := Lib.hid (undo_stay g v4 L4 wr hP.st.led (.inl hne))
                  have KD := Lib.hid (dup_calls g v4 L4 s wr hP.st.led hs0)
                  rw [g2] at KD
                  have k1 : (0 : Int) ≤ (i : Int) := by omega
                  have k2 : (i : Int) < (L.list.length : Int) := by omega
                  clear hC hP hpm hfar hfine ho4 hs4 hc4 ht4 hs hdrop hmem g1 g2 g3 hne hs0 hrow
                  go_wp2_with fail
                  refine KU.out.mono ?_
                  rintro e w5 ⟨rfl, rfl⟩
                  unfold Three
                  go_wp2_with fail
                  refine KD.out.mono ?_
                  intro e w6 d6
                  obtain ⟨rfl, v6, P6⟩ := HP4.out.does d6
                  have HP6 := Lib.hid P6
                  clear d6 P6 x0 x1
                  go_wp2
                  go_roundw
                  case rel => exact ⟨i + 1, by omega, by go_num, Lib.hid ⟨_, _, HP6.out, HPM2.out.1, HPM2.out.2.1, HPM2.out.2.2, HE.out.1, HE.out.2.1, HE.out.2.2.1, HE.out.2.2.2⟩⟩
                  case measure => simp [intOf]; omega
                · obtain rfl : i = L.list.length := by omega
                  obtain ⟨v4, L4, hP, hpm, hfar, hfine, ho4, hs4, hc4, ht4⟩ := hC.out
                  rw [HXN.out, List.drop_length] at hpm
                  have he : L4.list = [] := List.perm_nil.1 hpm
                  obtain ⟨o4, cw4, th4, l4, s4⟩ := L4
                  simp only at ho4 hs4 hc4 ht4 he
                  subst ho4 hs4 hc4 ht4 he
                  have HP4 := Lib.hid hP.st
                  clear hC hP hpm hfar hfine hlt
                  go_wp2_with fail
                  refine (undo_go _ v4 _ _ HP4.out.led rfl rfl (Q := fun e w' => e = .returned (Three cw4 th4 true) ∧ ∃ v', St w w' g v' ⟨false, cw4, th4, [], false⟩) ((force_yes _ v4 _ _ HP4.out.led rfl).mono (fun e w' d => ?_))).mono ?_
                  · obtain ⟨rfl, v6, S6, _, _⟩ := HP4.out.does d
                    exact ⟨_, _, true, rfl, rfl, v6, S6⟩
                  · rintro e w6 ⟨rfl, v6, S6⟩
                    have HS6 := Lib.hid S6
                    clear S6
                    unfold Three
                    go_wp2_with fail
                    refine (undo_go _ v6 _ _ HS6.out.led rfl rfl (Q := Same w6 (Three 0 0 false)) ((force_no _ v6 _ _ HS6.out.led rfl).mono (fun e w' d => ?_))).mono ?_
                    · obtain ⟨rfl, rfl⟩ := d
                      exact ⟨_, _, false, rfl, rfl, rfl⟩
                    · rintro e w7 ⟨rfl, rfl⟩
                      unfold Three
                      go_wp2_with fail
                      refine (pending_calls _ v6 _ _ HS6.out.led).mono ?_
                      rintro e w8 ⟨rfl, rfl⟩
                      simp only [List.length_nil]
                      go_wp2_with fail
                      refine (known_calls _).mono ?_
                      rintro e w9 ⟨rfl, b9⟩
                      have B9 := Lib.hid (below_then HS6.out.bel HS6.out.bel.size b9)
                      clear b9
                      go_wp2
                      go_ret
                      exact ⟨rfl, B9.out⟩
end Go.Proofs.Ytaokiocpfpdmkaa.Led
