/- Chapter 10 (dup): spans as blocks: the document's Blocks, and the law that holds both against each other. -/
import Derived.Test.YtaokiocpfpdmkaaBlocks
set_option linter.unusedSimpArgs false
set_option linter.unusedVariables false
attribute [local go_sem ↓] Go.wp_at_zero Go.wp_at_succ
namespace Go.Proofs.Ytaokiocpfpdmkaa.Dups
open Go.BigFrame Go.RowKit Go.OpenShut Go.Proofs.Ytaokiocpfpdmkaa.Aid Go.Proofs.Ytaokiocpfpdmkaa.Spans
open Led (encS encS_len encS_one info26 row_alloc row_drew src_one)
structure RB (w W : World) (v u : Value) (l : List Span) (xs : List Block) : Prop where
  list : RowOf 26 2 encS W v l
  row : RowOf 43 2 encK W u xs
  lown : ∀ b, v.ownBlock = some b → w.heap.size ≤ b
  own : ∀ b, u.ownBlock = some b → w.heap.size ≤ b ∧ v.ownBlock ≠ some b
  bel : Below w.heap.size w W
section
variable {w W W' : World} {v u u' : Value} {l : List Span} {xs xs' : List Block}
theorem RB.below (H : RB w W v u l xs) (hb : Below W.heap.size W W') : RB w W' v u l xs := ⟨H.list.below hb, H.row.below hb, H.lown, H.own, below_then H.bel H.bel.size hb⟩
theorem RB.app (H : RB w W v u l xs) (hr : RowOf 43 2 encK W' u' xs') (ha : App W W' u u') : RB w W' v u' l xs' := by
  have hs := H.bel.size
  refine ⟨H.list.same fun k e => ha.block k (H.list.lt k e) (fun e2 => (H.own k e2).2 e), hr, H.lown, fun b e => ?_, ⟨ha.os.trans H.bel.os, ha.tape.trans H.bel.tape, ha.output.trans H.bel.output, Nat.le_trans hs ha.size, fun k hk => (ha.block k (by omega) (fun e => by have := (H.own k e).1; omega)).trans (H.bel.block k hk)⟩⟩
  rcases ha.own b e with h1 | h1
  · exact H.own b h1
  · refine ⟨by omega, fun e2 => ?_⟩
    have := H.list.lt b e2
    omega
end
theorem row_one {W : World} {s : Span} {g : Nat} (h : Blk W g 26 #[.int .i64 s.lo, .int .i64 s.hi]) : RowOf 26 2 encS W (.slice (some ⟨g, 0, Option.none⟩) 1 1) [s] :=
  .inr ⟨g, 1, _, rfl, by simp, by omega, h, by simp, by simp [encS]⟩
theorem list_cells {w W : World} {A : Option Addr} {n c : Nat} {u : Value} {l : List Span} {xs : List Block} (H : RB w W (.slice A n c) u l xs) (k : Nat) (s : Span) (hs : l[k]? = some s) :
    ∃ ad, A = some ad ∧ W.cell? (ad.add (k * 2)) = some (.int .i64 s.lo) ∧ W.cell? ⟨(ad.add (k * 2)).block, (ad.add (k * 2)).off + 1, Option.none⟩ = some (.int .i64 s.hi) := by
  obtain ⟨A', cap, e, _, hR⟩ := H.list.reps encS_len
  injection e with e1 e2 e3
  subst e1
  obtain ⟨ad, rfl, _, hc⟩ := hR k s hs
  exact ⟨ad, rfl, hc 0 _ rfl, (add_next ad (k * 2) 1 (by omega)) ▸ hc 1 _ rfl⟩
set_option maxRecDepth 100000 in
set_option maxHeartbeats 4000000 in
theorem rblocks_calls (first : Int) (d : Span) (l : List Span) (A : Option Addr) (c : Nat) (w : World) (f0 : 0 ≤ first) (f1 : first < 4294967296) (hn : l.length * 16 ≤ 140737488351232) (hA : A = Option.none → c = 0) (hr : Reps w A 2 encS l) :
    Calls Try.prog 21 #[.int .u32 first, .agg #[.int .i64 d.lo, .int .i64 d.hi], .slice A l.length c] w (Makes w (blocksOf first (d :: l))) := by
  obtain ⟨i0, hi, hz0, hz1, hz2⟩ := info_parts info26
  obtain ⟨j0, gi, gz0, gz1, gz2⟩ := info_parts info43
  have R := Lib.hid hr
  have HA := Lib.hid hA
  clear hr hA
  have D0 : At2 (w.alloc (.cells #[.int .i64 d.lo, .int .i64 d.hi] 26)) w.heap.size d := at2_new rfl
  obtain ⟨d0, d1⟩ := D0
  go_enter Try.func21, Try.ntmps21
  go_wp2_with (at_builtin; refine wpList_append_any (by rfl) _ _ 27 (by rfl) i0 _ 16 Try.underlying27 hi hz0 hz1 hz2 (by decide) (by decide) encS_len encS_one (.slice (some ⟨w.heap.size + 1, 0, Option.none⟩) 1 1) [d] (by rfl) (row_one (by have := Blk.new (w.alloc (.cells #[.int .i64 d.lo, .int .i64 d.hi] 26)) 26 #[.int .i64 d.lo, .int .i64 d.hi]; simpa using this)) A l.length c l rfl (by rfl) HA.out (R.out.below (((Below.refl _ w).alloc (Nat.le_refl _) _).alloc (by simp) _)) ?k2 ?k3 ?k4)
  case k2 => simp; unfold maxLen; omega
  case k3 => simp; omega
  case k4 =>
    intro v1 w1 hr1 ha1
    obtain ⟨B, nB, cB, rfl⟩ := hr1.some_slice
    have HB : Hid (RB w w1 (.slice B nB cB) (.slice Option.none 0 0) (d :: l) (([] : List Span).foldl (putOf first) [])) := Lib.hid ⟨hr1, .inl ⟨rfl, rfl⟩, fun b e => by
      rcases ha1.own b e with h1 | h1
      · have : w.heap.size + 1 = b := by simpa [Value.ownBlock] using h1
        omega
      · simp at h1; omega, fun b e => by simp [Value.ownBlock] at e, below_app (((Below.refl _ w).alloc (Nat.le_refl _) _).alloc (by simp) _) ha1 (fun k hk => by
      have : w.heap.size + 1 = k := by simpa [Value.ownBlock] using hk
      omega)⟩
    obtain ⟨A', cap, e, hcap, _⟩ := hr1.reps encS_len
    injection e with e1 e2 e3
    have hnB : nB = l.length + 1 := by rw [e2]; simp
    subst hnB
    clear hr1 ha1 d0 d1 e1 e2 e3 hcap
    go_wp2
    go_loopw [8, 9] (fun u i wr => ∃ (k : Nat), k ≤ l.length + 1 ∧ i = .int .i64 k ∧ Hid (RB w wr (.slice B (l.length + 1) cB) u (d :: l) (((d :: l).take k).foldl (putOf first) []))) (fun _ i _ => l.length + 1 - (intOf i).toNat)
    case atStart => exact ⟨0, by omega, rfl, HB⟩
    case round =>
      obtain ⟨k, hk, rfl, hP⟩ := hrel
      clear HB
      obtain ⟨C, nC, cC, rfl⟩ := hP.out.row.some_slice
      obtain ⟨rfl, _⟩ := rowK_len hP.out.row
      by_cases hlt : k < l.length + 1
      · obtain ⟨s, hs⟩ : ∃ s, (d :: l)[k]? = some s := ⟨_, List.getElem?_eq_getElem (by simpa using hlt)⟩
        have htk : (d :: l).take (k + 1) = (d :: l).take k ++ [s] := by rw [List.take_succ_eq_append_getElem (by simpa using hlt), (List.getElem?_eq_some_iff.1 hs).2]
        have HT : Hid (((d :: l).take (k + 1)).foldl (putOf first) [] = putOf first (((d :: l).take k).foldl (putOf first) []) s) := Lib.hid (by rw [htk, List.foldl_append]; rfl)
        have hb := blocks_len first ((d :: l).take k) [] (by simp)
        generalize ((d :: l).take k).foldl (putOf first) [] = xs at *
        obtain ⟨ad, rfl, c0, c1⟩ := list_cells hP.out k s hs
        have HS := Lib.hid hs
        have K := Lib.hid (len_ref s)
        have k1 : (0 : Int) ≤ (k : Int) := by omega
        have k2 : (k : Int) < (l.length : Int) + 1 := by omega
        clear htk hs
        by_cases hl : 0 < len s
        · by_cases hr : xs.length < 4
          · have HP : Hid (putOf first xs s = xs ++ [blk first s]) := Lib.hid (by unfold putOf; rw [if_pos ⟨hl, hr⟩])
            have hr2 : (xs.length : Int) < 4 := by omega
            have HR := Lib.hid hr
            have ML := Lib.hid (mod_ref s.lo)
            have MH := Lib.hid (mod_ref s.hi)
            have a0 : 0 ≤ s.lo % 4294967296 := by omega
            have a1 : s.lo % 4294967296 < 4294967296 := by omega
            have b0 : 0 ≤ s.hi % 4294967296 := by omega
            have b1 : s.hi % 4294967296 < 4294967296 := by omega
            have hbk : blk first s = ⟨(first + s.lo % 4294967296) % 4294967296, (first + s.hi % 4294967296) % 4294967296⟩ := rfl
            rw [hbk] at HP
            generalize s.lo % 4294967296 = a at *
            generalize s.hi % 4294967296 = b at *
            have MA := Lib.hid (mod_ref (first + a))
            have MB := Lib.hid (mod_ref (first + b))
            have p0 : 0 ≤ (first + a) % 4294967296 := by omega
            have p1 : (first + a) % 4294967296 < 4294967296 := by omega
            have q0 : 0 ≤ (first + b) % 4294967296 := by omega
            have q1 : (first + b) % 4294967296 < 4294967296 := by omega
            generalize (first + a) % 4294967296 = p at *
            generalize (first + b) % 4294967296 = q at *
            clear hbk hr hb
            generalize len s = z at *
            go_wp2_with fail
            refine (K.out _).mono ?_
            rintro e w3 ⟨rfl, b3⟩
            have P3 := Lib.hid (hP.out.below b3)
            obtain ⟨ad', e', c0, c1⟩ := list_cells P3.out k s HS.out
            cases e'
            clear b3
            go_wp2_with fail
            refine (ML.out _).mono ?_
            rintro e w4 ⟨rfl, rfl⟩
            go_wp2_with fail
            refine (MA.out _).mono ?_
            rintro e w4 ⟨rfl, rfl⟩
            go_wp2_with fail
            refine (MH.out _).mono ?_
            rintro e w4 ⟨rfl, rfl⟩
            go_wp2_with fail
            refine (MB.out _).mono ?_
            rintro e w4 ⟨rfl, rfl⟩
            go_wp2_with (at_builtin; refine wpList_append_row (by rfl) _ _ 23 (by rfl) j0 _ 8 Try.underlying23 gi gz0 gz1 gz2 (by decide) (by decide) encK_len encK_one (.slice C xs.length cC) xs (by rfl) (rowK_alloc P3.out.row _) _ 1 _ [⟨p, q⟩] rfl (by rfl) (srcK_one (heap_alloc_new _ _)) ?k5 ?k6 ?k7)
            case k5 => have := HR.out; unfold maxLen; omega
            case k6 => have := HR.out; omega
            case k7 =>
              intro v6 w6 hr6 ha6
              have P6 := Lib.hid ((P3.out.below ((Below.refl _ w3).alloc (Nat.le_refl _) _)).app hr6 ha6)
              clear hr6 ha6
              go_wp2
              go_roundw
              case rel => exact ⟨k + 1, by omega, by go_num, Lib.hid (by rw [HT.out, HP.out]; exact P6.out)⟩
              case measure => simp [intOf]; omega
          · have HP : Hid (putOf first xs s = xs) := Lib.hid (by unfold putOf; rw [if_neg (fun h => hr h.2)])
            have hr2 : ¬ (xs.length : Int) < 4 := by omega
            clear hr
            generalize len s = z at *
            go_wp2_with fail
            refine (K.out _).mono ?_
            rintro e w3 ⟨rfl, b3⟩
            have P3 := Lib.hid (hP.out.below b3)
            clear b3
            go_wp2
            go_roundw
            case rel => exact ⟨k + 1, by omega, by go_num, Lib.hid (by rw [HT.out, HP.out]; exact P3.out)⟩
            case measure => simp [intOf]; omega
        · have HP : Hid (putOf first xs s = xs) := Lib.hid (by unfold putOf; rw [if_neg (fun h => hl h.1)])
          generalize len s = z at *
          go_wp2_with fail
          refine (K.out _).mono ?_
          rintro e w3 ⟨rfl, b3⟩
          have P3 := Lib.hid (hP.out.below b3)
          clear b3
          go_wp2
          go_roundw
          case rel => exact ⟨k + 1, by omega, by go_num, Lib.hid (by rw [HT.out, HP.out]; exact P3.out)⟩
          case measure => simp [intOf]; omega
      · obtain rfl : k = l.length + 1 := by omega
        have e0 : ((d :: l).take (l.length + 1)).foldl (putOf first) [] = blocksOf first (d :: l) := by
          rw [List.take_of_length_le (by simp)]
          rfl
        rw [e0] at hP ⊢
        generalize blocksOf first (d :: l) = xs at *
        obtain ⟨h1, h2⟩ := rowK_len hP.out.row
        have HL := Lib.hid h2
        clear h1 h2 e0 hlt
        go_wp2
        go_ret
        exact ⟨C, _, cC, rfl, hP.out.row, rfl, HL.out, fun b e => (hP.out.own b e).1, hP.out.bel⟩
end Go.Proofs.Ytaokiocpfpdmkaa.Dups
