/- The walk of SumTurns. -/
import Derived.Test.YtmkinnkndjmpbaaSumTells
import Derived.BigQuiet
namespace Go.Proofs.Ytmkinnkndjmpbaa.Sum
open Go.BigFrame Go.RowKit Go.Shelf Go.Proofs.Ytmkinnkndjmpbaa.Aid Go.Proofs.Ytmkinnkndjmpbaa.SumPlain
set_option maxRecDepth 100000 in
set_option maxHeartbeats 2000000 in
theorem turns_walk (A : Option Addr) (c : Nat) (xs : List Int) (at_ hi lo : Int) (w : World) (h : In w A xs) (ha : -9223372036854775808 ≤ at_ ∧ at_ ≤ 9223372036854775807) (h2 : 0 ≤ hi ∧ hi ≤ 255) (h3 : 0 ≤ lo ∧ lo ≤ 255) :
    Calls Try.prog 13 #[.slice A xs.length c, .int .i64 at_, .int .u8 hi, .int .u8 lo] w (Yes w) := by
  obtain ⟨i0, hi0, hz0, hz1, hz2⟩ := info_parts byteInfo
  obtain ⟨a0, a1⟩ := ha
  obtain ⟨hi1, hi2⟩ := h2
  obtain ⟨lo1, lo2⟩ := h3
  have hl := h.len
  have H := Lib.hid h
  clear h
  by_cases hc : 0 ≤ at_ ∧ at_ < (xs.length : Int) / 2
  · obtain ⟨h0, h1⟩ := hc
    obtain ⟨k, rfl⟩ := Int.eq_ofNat_of_zero_le h0
    have hk : 2 * k + 1 < xs.length := by omega
    obtain ⟨x, hx⟩ : ∃ x, xs[2 * k]? = some x := ⟨_, List.getElem?_eq_getElem (by omega)⟩
    obtain ⟨y, hy⟩ : ∃ y, xs[2 * k + 1]? = some y := ⟨_, List.getElem?_eq_getElem (by omega)⟩
    obtain ⟨ad, rfl, _⟩ := H.out.reps _ x hx
    have HX := Lib.hid hx
    have HY := Lib.hid hy
    obtain ⟨x0, x1⟩ := H.out.bytes x (List.mem_of_getElem? hx)
    obtain ⟨y0, y1⟩ := H.out.bytes y (List.mem_of_getElem? hy)
    clear hx hy
    go_enter Try.func13, Try.ntmps13
    go_wp2_with fail
    refine (known_calls _).mono ?_
    rintro e w1 ⟨rfl, b1⟩
    have O2 := Lib.hid (own_base w1 w.heap.size b1.size)
    have B3 := Lib.hid (b1.alloc b1.size (.cells #[] 5))
    clear b1
    go_upto_region 6 with (at_builtin; go_loud (refine wpList_append_own _ rfl (.tmp 27) (.tmp 28) 40 rfl w.heap.size 5 i0 (.int .u8 0) 1 1 Try.underlying40 hi0 hz0 hz1 hz2 rfl (by decide) (.slice (some ⟨w1.heap.size, 0, none⟩) 0 0) 0 [] rfl O2.out ad xs.length c (xs.flatMap encB) rfl (byte_flat xs) ((H.out.below B3.out).reps.cells encB_len (by decide) ad rfl) (byte_one xs) (by unfold maxLen; omega) (by omega) (by have := B3.out.size; simpa using this) ?_; intro v4 w4 hown4 hg4 _; have B4 := Lib.hid (grown_own B3.out B3.out.size O2.out hg4); obtain ⟨g4, cap, rfl, hgx, hgl⟩ := hown4.form (by omega); have O4 := Lib.hid hown4; have f4 := hown4.frozenAt; have q0 := (hown4.cellAt (2 * k) (by omega)).trans (flat_get xs (2 * k) x HX.out); have q1 := (hown4.cellAt (2 * k + 1) (by omega)).trans (flat_get xs (2 * k + 1) y HY.out); clear hown4 hg4 O2))
    go_upto_region 7 with fail
    obtain ⟨w5, hw5⟩ : ∃ w5, w5 = (w4.setCell ⟨g4, 2 * k, none⟩ (.int .u8 hi)).setCell ⟨g4, 2 * k + 1, none⟩ (.int .u8 lo) := ⟨_, rfl⟩
    rw [← hw5]
    have B5 : Hid (Below w.heap.size w w5) := Lib.hid (by rw [hw5]; exact (B4.out.setCell (by exact hgx) _).setCell (by exact hgx) _)
    have C5 : Hid (In w5 (some ⟨g4, 0, none⟩) (setWord xs k hi lo)) := Lib.hid (by
      have o1 := ((O4.out.stored (2 * k) (.int .u8 hi)).1.stored (2 * k + 1) (.int .u8 lo)).1
      rw [← hw5] at o1
      refine own_in (base := w.heap.size) (e := 5) (cap := cap) (n := 0 + xs.length) (us := (setWord xs k hi lo).flatMap encB) ?_ rfl (by rw [set_len]; exact hl) (set_bytes xs k hi lo H.out.bytes ⟨hi1, hi2⟩ ⟨lo1, lo2⟩)
      rw [List.nil_append, flat_set, flat_set] at o1
      exact o1)
    obtain ⟨ad', hA', _, r0⟩ := (H.out.below B5.out).reps.at_ HX.out
    cases hA'
    have r0 := r0 0 (.int .u8 x) rfl
    obtain ⟨ad', hA', _, r1⟩ := (H.out.below B5.out).reps.at_ HY.out
    cases hA'
    have r1 := r1 0 (.int .u8 y) rfl
    simp only [Nat.mul_one, Nat.add_zero] at r0 r1
    have r2 : w5.cell? ⟨ad.block, ad.off + (2 * k + 1), none⟩ = some (.int .u8 y) := by have := r1; unfold Addr.add at this; simpa using this
    clear hw5 q0 q1 f4 O4 hgl
    have hgx : xs.getD (2 * k) 0 = x := by rw [List.getD_eq_getElem?_getD, HX.out]; rfl
    have hgy : xs.getD (2 * k + 1) 0 = y := by rw [List.getD_eq_getElem?_getD, HY.out]; rfl
    obtain ⟨was, hwas⟩ : ∃ was, was = x * 256 + y := ⟨_, rfl⟩
    obtain ⟨is_, his⟩ : ∃ is_, is_ = hi * 256 + lo := ⟨_, rfl⟩
    have ow : bits .or .u16 (x * 256) y = was := by rw [hwas]; exact or16 _ _ (by omega) (by omega) (by omega) ⟨y0, y1⟩
    have oi : bits .or .u16 (hi * 256) lo = is_ := by rw [his]; exact or16 _ _ (by omega) (by omega) (by omega) ⟨lo1, lo2⟩
    have wb : 0 ≤ was ∧ was ≤ 65535 := by omega
    have ib : 0 ≤ is_ ∧ is_ ≤ 65535 := by omega
    have TT := turns xs k hi lo H.out.bytes ⟨hi1, hi2⟩ ⟨lo1, lo2⟩ hk was (by rw [hgx, hgy]; omega) wb
    rw [show 256 * hi + lo = is_ by omega] at TT
    obtain ⟨S, hS⟩ : ∃ S, S = sumOf xs := ⟨_, rfl⟩
    have sb := sum_bd xs
    have xb := sum_bd (setWord xs k hi lo)
    have N1 := Lib.hid (fun (W : World) (hB : Below w.heap.size w W) => check_one (some ad) c xs W (H.out.below hB))
    have N2 := Lib.hid (fun (W : World) (hB : Below w5.heap.size w5 W) => set_len xs k hi lo ▸ check_one (some ⟨g4, 0, none⟩) cap (setWord xs k hi lo) W (C5.out.below hB))
    have NR := Lib.hid (fun (W : World) (hB : Below w.heap.size w W) => ref_of (some ad) c xs W (H.out.below hB))
    rw [← hS] at TT sb N1 NR
    clear hS hwas his hgx hgy
    generalize sumOf (setWord xs k hi lo) = X at *
    obtain ⟨K, hK⟩ : ∃ K, K = 65535 - S := ⟨_, rfl⟩
    obtain ⟨q, hq⟩ : ∃ q, q = canon (S + (65535 - was)) := ⟨_, rfl⟩
    obtain ⟨f, hf⟩ : ∃ f, f = canon (q + is_) := ⟨_, rfl⟩
    have qb := canon_bd (S + (65535 - was))
    have fb := canon_bd (q + is_)
    have NT := Lib.hid (fun (W : World) => turn_calls K was is_ W (by omega) wb ib)
    rw [show (65535 - K) + (65535 - was) = S + (65535 - was) by omega, ← hq, ← hf] at NT
    have F1 := Lib.hid (fun (W : World) => fold_calls (S + 65535 - was) W (by omega) (by omega))
    rw [show S + 65535 - was = S + (65535 - was) by omega, ← hq, show S + (65535 - was) = S + 65535 - was by omega] at F1
    have F2 := Lib.hid (fun (W : World) => fold_calls (q + is_) W (by rw [← hq] at qb; omega) (by rw [← hq] at qb; omega))
    rw [← hq] at TT qb
    rw [← hf] at TT fb F2
    rw [← hK] at N1
    have HT := Lib.hid TT
    obtain ⟨w0', w1'⟩ := wb
    obtain ⟨i0', i1'⟩ := ib
    obtain ⟨s0, s1⟩ := sb
    obtain ⟨x0', x1'⟩ := xb
    obtain ⟨q0', q1'⟩ := qb
    obtain ⟨f0, f1⟩ := fb
    have k0' : 0 ≤ K := by omega
    have k1' : K ≤ 65535 := by omega
    clear TT hq hf hK
    refine wp_region_quiet_lit (by kernel_rfl) (by kernel_rfl) ?_
    repeat (go_big_quiet_step (fail))
    refine wpQuiet_nil ?_
    rintro _ ⟨nq, rfl⟩
    go_wp2_with fail
    refine (N1.out _ (below_drewN B5.out nq)).mono ?_
    rintro e w6 ⟨rfl, b6⟩
    have B6 := Lib.hid (below_then (below_drewN B5.out nq) B5.out.size b6)
    have D6 : Hid (Below w5.heap.size w5 w6) := Lib.hid ⟨b6.os, b6.tape, b6.output, b6.size, b6.block⟩
    clear b6
    go_wp2_with fail
    refine (NT.out _).mono ?_
    rintro e w7 ⟨rfl, rfl⟩
    go_wp2_with fail
    refine (NR.out _ B6.out).mono ?_
    rintro e w7 ⟨rfl, rfl⟩
    go_wp2_with fail
    refine (F1.out _).mono ?_
    rintro e w7 ⟨rfl, rfl⟩
    go_wp2_with fail
    refine (F2.out _).mono ?_
    rintro e w7 ⟨rfl, rfl⟩
    go_wp2_with fail
    refine (N2.out _ D6.out).mono ?_
    rintro e w7 ⟨rfl, b7⟩
    have B7 := Lib.hid (below_then B6.out B6.out.size b7)
    clear b7
    have hTT := HT.out
    by_cases e1 : 65535 - f = 65535 - X
    all_goals
      go_wp2_with fail
      refine (known_calls _).mono ?_
      rintro e w8 ⟨rfl, b8⟩
      go_wp2
      go_ret
      exact ⟨(by first | rfl | exact ret_bool (by simp [e1, hTT]) | exact ret_bool (by simp; omega)), below_then B7.out B7.out.size b8⟩
  · have hc' : at_ < 0 ∨ (¬ at_ < 0 ∧ (xs.length : Int) / 2 ≤ at_) := by omega
    clear hc
    rcases hc' with h0 | ⟨h0, h1⟩
    all_goals
      go_enter Try.func13, Try.ntmps13
      go_wp2_with fail
      refine (known_calls _).mono ?_
      rintro e w1 ⟨rfl, b1⟩
      go_wp2_with fail
      refine (known_calls _).mono ?_
      rintro e w2 ⟨rfl, b2⟩
      go_wp2
      go_ret
      exact ⟨rfl, below_then b1 b1.size b2⟩
end Go.Proofs.Ytmkinnkndjmpbaa.Sum
