/- The walk of SumTells. -/
import Derived.Test.YtmkinnkndjmpbaaSumMore
import Derived.BigQuiet
namespace Go.Proofs.Ytmkinnkndjmpbaa.Sum
open Go.BigFrame Go.RowKit Go.Shelf Go.Proofs.Ytmkinnkndjmpbaa.Aid Go.Proofs.Ytmkinnkndjmpbaa.SumPlain
theorem flat_map (xs : List Int) : xs.flatMap encB = xs.map (fun x => Value.int .u8 x) := by
  induction xs with
  | nil => rfl
  | cons x t ih => simp only [List.flatMap_cons, ih, encB, List.map_cons, List.singleton_append]
theorem flat_set (xs : List Int) (j : Nat) (y : Int) : (xs.flatMap encB).set j (.int .u8 y) = (xs.set j y).flatMap encB := by
  rw [flat_map, flat_map, List.map_set]
theorem flat_get (xs : List Int) (j : Nat) (x : Int) (h : xs[j]? = some x) : (xs.flatMap encB)[j]? = some (.int .u8 x) := by
  rw [flat_map, List.getElem?_map, h]; rfl
theorem set_len (xs : List Int) (k : Nat) (hi lo : Int) : (setWord xs k hi lo).length = xs.length := by simp [setWord]
theorem In.drewN {w : World} {A : Option Addr} {xs : List Int} (h : In w A xs) (n : Nat) : In (w.drewN n) A xs := ⟨h.reps.drewN n, h.len, h.bytes⟩
theorem below_drewN {B : Nat} {w w' : World} (h : Below B w w') (n : Nat) : Below B w (w'.drewN n) := ⟨h.os, h.tape, h.output, h.size, h.block⟩
set_option maxRecDepth 100000 in
set_option maxHeartbeats 2000000 in
theorem tells_walk (A : Option Addr) (c : Nat) (xs : List Int) (at_ hi lo : Int) (w : World) (h : In w A xs) (ha : -9223372036854775808 ≤ at_ ∧ at_ ≤ 9223372036854775807) (h2 : 0 ≤ hi ∧ hi ≤ 255) (h3 : 0 ≤ lo ∧ lo ≤ 255) :
    Calls Try.prog 11 #[.slice A xs.length c, .int .i64 at_, .int .u8 hi, .int .u8 lo] w (Yes w) := by
  obtain ⟨i0, hi0, hz0, hz1, hz2⟩ := info_parts byteInfo
  obtain ⟨a0, a1⟩ := ha
  obtain ⟨hi1, hi2⟩ := h2
  obtain ⟨lo1, lo2⟩ := h3
  have hl := h.len
  have H := Lib.hid h
  clear h
  by_cases hc : 0 ≤ at_ ∧ at_ < (xs.length : Int) / 2
  · obtain ⟨h0, h1⟩ := hc
    obtain ⟨k, rfl⟩ := Int.eq_ofNat_of_zero_le h0
    have hk : 2 * k + 1 < xs.length := by omega
    obtain ⟨x, hx⟩ : ∃ x, xs[2 * k]? = some x := ⟨_, List.getElem?_eq_getElem (by omega)⟩
    obtain ⟨y, hy⟩ : ∃ y, xs[2 * k + 1]? = some y := ⟨_, List.getElem?_eq_getElem (by omega)⟩
    obtain ⟨ad, rfl, _⟩ := H.out.reps _ x hx
    have HX := Lib.hid hx
    have HY := Lib.hid hy
    obtain ⟨x0, x1⟩ := H.out.bytes x (List.mem_of_getElem? hx)
    obtain ⟨y0, y1⟩ := H.out.bytes y (List.mem_of_getElem? hy)
    clear hx hy
    go_enter Try.func11, Try.ntmps11
    go_wp2_with fail
    refine (known_calls _).mono ?_
    rintro e w1 ⟨rfl, b1⟩
    have O2 := Lib.hid (own_base w1 w.heap.size b1.size)
    have B3 := Lib.hid (b1.alloc b1.size (.cells #[] 5))
    clear b1
    go_upto_region 6 with (at_builtin; go_loud (refine wpList_append_own _ rfl (.tmp 25) (.tmp 26) 40 rfl w.heap.size 5 i0 (.int .u8 0) 1 1 Try.underlying40 hi0 hz0 hz1 hz2 rfl (by decide) (.slice (some ⟨w1.heap.size, 0, none⟩) 0 0) 0 [] rfl O2.out ad xs.length c (xs.flatMap encB) rfl (byte_flat xs) ((H.out.below B3.out).reps.cells encB_len (by decide) ad rfl) (byte_one xs) (by unfold maxLen; omega) (by omega) (by have := B3.out.size; simpa using this) ?_; intro v4 w4 hown4 hg4 _; have B4 := Lib.hid (grown_own B3.out B3.out.size O2.out hg4); obtain ⟨g4, cap, rfl, hgx, hgl⟩ := hown4.form (by omega); have O4 := Lib.hid hown4; have f4 := hown4.frozenAt; have q0 := (hown4.cellAt (2 * k) (by omega)).trans (flat_get xs (2 * k) x HX.out); have q1 := (hown4.cellAt (2 * k + 1) (by omega)).trans (flat_get xs (2 * k + 1) y HY.out); clear hown4 hg4 O2))
    go_upto_region 7 with fail
    obtain ⟨w5, hw5⟩ : ∃ w5, w5 = (w4.setCell ⟨g4, 2 * k, none⟩ (.int .u8 hi)).setCell ⟨g4, 2 * k + 1, none⟩ (.int .u8 lo) := ⟨_, rfl⟩
    rw [← hw5]
    have B5 : Hid (Below w.heap.size w w5) := Lib.hid (by rw [hw5]; exact (B4.out.setCell (by exact hgx) _).setCell (by exact hgx) _)
    have C5 : Hid (In w5 (some ⟨g4, 0, none⟩) (setWord xs k hi lo)) := Lib.hid (by
      have o1 := ((O4.out.stored (2 * k) (.int .u8 hi)).1.stored (2 * k + 1) (.int .u8 lo)).1
      rw [← hw5] at o1
      refine own_in (base := w.heap.size) (e := 5) (cap := cap) (n := 0 + xs.length) (us := (setWord xs k hi lo).flatMap encB) ?_ rfl (by rw [set_len]; exact hl) (set_bytes xs k hi lo H.out.bytes ⟨hi1, hi2⟩ ⟨lo1, lo2⟩)
      rw [List.nil_append, flat_set, flat_set] at o1
      exact o1)
    obtain ⟨ad', hA', _, r0⟩ := (H.out.below B5.out).reps.at_ HX.out
    cases hA'
    have r0 := r0 0 (.int .u8 x) rfl
    obtain ⟨ad', hA', _, r1⟩ := (H.out.below B5.out).reps.at_ HY.out
    cases hA'
    have r1 := r1 0 (.int .u8 y) rfl
    simp only [Nat.mul_one, Nat.add_zero] at r0 r1
    have r2 : w5.cell? ⟨ad.block, ad.off + (2 * k + 1), none⟩ = some (.int .u8 y) := by have := r1; unfold Addr.add at this; simpa using this
    clear hw5 q0 q1 f4 O4 hgl
    have gx : xs.getD (2 * k) 0 = x := by rw [List.getD_eq_getElem?_getD, HX.out]; rfl
    have gy : xs.getD (2 * k + 1) 0 = y := by rw [List.getD_eq_getElem?_getD, HY.out]; rfl
    have hT := tells xs k hi lo H.out.bytes ⟨hi1, hi2⟩ ⟨lo1, lo2⟩ hk
    have hS := tells_same xs k hi lo hk
    rw [gx, gy] at hT hS
    have HT := Lib.hid hT
    have HS := Lib.hid hS
    clear hT hS gx gy
    have N1 := Lib.hid (fun n => set_len xs k hi lo ▸ of_one (some ⟨g4, 0, none⟩) cap (setWord xs k hi lo) (w5.drewN n) (C5.out.drewN n))
    have N2 := Lib.hid (fun (W : World) (hB : Below w.heap.size w W) => of_one (some ad) c xs W (H.out.below hB))
    have NK := Lib.hid (fun (W : World) => known_calls W)
    refine wp_region_quiet_lit (by kernel_rfl) (by kernel_rfl) ?_
    repeat (go_big_quiet_step (fail))
    refine wpQuiet_nil ?_
    rintro _ ⟨nq, rfl⟩
    by_cases e1 : 256 * x + y = 256 * hi + lo
    · rw [HS.out e1] at N1
      generalize sumOf xs = s at *
      go_wp2_with fail
      refine (N1.out nq).mono ?_
      rintro e w6 ⟨rfl, b6⟩
      have B6 := Lib.hid (below_then (below_drewN B5.out nq) B5.out.size b6)
      clear b6
      go_wp2_with fail
      refine (N2.out w6 B6.out).mono ?_
      rintro e w7 ⟨rfl, b7⟩
      have B7 := Lib.hid (below_then B6.out B6.out.size b7)
      clear b7
      go_wp2_with fail
      refine (known_calls _).mono ?_
      rintro e w8 ⟨rfl, b8⟩
      go_wp2
      go_ret
      exact ⟨rfl, below_then B7.out B7.out.size b8⟩
    · by_cases e2 : (256 * x + y) % 65535 = (256 * hi + lo) % 65535
      · go_wp2_with fail
        refine (known_calls _).mono ?_
        rintro e w8 ⟨rfl, b8⟩
        go_wp2
        go_ret
        exact ⟨rfl, below_then (below_drewN B5.out nq) B5.out.size b8⟩
      · have hne := HT.out e2
        generalize sumOf xs = s at *
        generalize sumOf (setWord xs k hi lo) = s' at *
        go_wp2_with fail
        refine (N1.out nq).mono ?_
        rintro e w6 ⟨rfl, b6⟩
        have B6 := Lib.hid (below_then (below_drewN B5.out nq) B5.out.size b6)
        clear b6
        go_wp2_with fail
        refine (N2.out w6 B6.out).mono ?_
        rintro e w7 ⟨rfl, b7⟩
        have B7 := Lib.hid (below_then B6.out B6.out.size b7)
        clear b7
        go_wp2_with fail
        refine (known_calls _).mono ?_
        rintro e w8 ⟨rfl, b8⟩
        go_wp2
        go_ret
        exact ⟨ret_bool (by simp [hne]), below_then B7.out B7.out.size b8⟩
  · have hc' : at_ < 0 ∨ (¬ at_ < 0 ∧ (xs.length : Int) / 2 ≤ at_) := by omega
    clear hc
    rcases hc' with h0 | ⟨h0, h1⟩
    all_goals
      go_enter Try.func11, Try.ntmps11
      go_wp2_with fail
      refine (known_calls _).mono ?_
      rintro e w1 ⟨rfl, b1⟩
      go_wp2_with fail
      refine (known_calls _).mono ?_
      rintro e w2 ⟨rfl, b2⟩
      go_wp2
      go_ret
      exact ⟨rfl, below_then b1 b1.size b2⟩
end Go.Proofs.Ytmkinnkndjmpbaa.Sum
