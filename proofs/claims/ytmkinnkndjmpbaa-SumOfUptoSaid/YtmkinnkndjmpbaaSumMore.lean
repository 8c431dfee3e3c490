/- The walk of SumWithin. -/
import Derived.Test.YtmkinnkndjmpbaaSumLaws
import Derived.Laws.AppendOwnNone
namespace Go.Proofs.Ytmkinnkndjmpbaa.Sum
open Go.RowKit Go.Shelf Go.Proofs.Ytmkinnkndjmpbaa.Aid Go.Proofs.Ytmkinnkndjmpbaa.SumPlain
theorem byteInfo : (Try.prog.info? 5).map (fun i => (i.zero, i.size, i.bytes)) = some (some (.int .u8 0), 1, 1) := by kernel_rfl
theorem encB_len (x : Int) : (encB x).length = 1 := rfl
theorem byte_one (m : List Int) : ∀ u ∈ m.flatMap encB, u.oneCell' = true := by
  intro u hu
  obtain ⟨x, _, hx⟩ := List.mem_flatMap.1 hu
  simp only [encB, List.mem_cons, List.not_mem_nil, or_false] at hx
  subst hx; rfl
theorem byte_flat (m : List Int) : (m.flatMap encB).length = m.length * 1 := flat_len encB_len m
/-- What is copied onto a new list. -/
theorem own_base (w : World) (B : Nat) (hB : B ≤ w.heap.size) : (w.alloc (.cells #[] 5)).ownsRow B 5 1 (.slice (some ⟨w.heap.size, 0, none⟩) 0 0) 0 [] := World.ownsRow_made w #[] 0 hB (by simp [maxLen]) rfl
theorem grown_own {B : Nat} {w w1 w2 : World} {v : Value} {e sz n : Nat} {xs : List Value} (h : Below B w w1) (hB : B ≤ w1.heap.size) (hown : w1.ownsRow B e sz v n xs) (hg : w1.grownBy w2 v.ownBlock) : Below B w w2 :=
  h.grown hg hB (fun k hk => (hown.lt k hk).1)
theorem In.nil {w : World} {xs : List Int} (h : In w none xs) : xs = [] := by
  cases xs with
  | nil => rfl
  | cons x t => obtain ⟨ad, e, _⟩ := h.reps 0 x rfl; cases e
theorem bytes_two (k : Int) (h0 : 0 ≤ k) (h1 : k ≤ 65535) : Bytes [k / 256, k % 256] := by
  intro x hx
  have : x = k / 256 ∨ x = k % 256 := by simpa using hx
  omega
theorem of_one' (A : Option Addr) (c : Nat) (xs : List Int) (w : World) (h : In w A xs) :
    Calls Try.prog 27 #[.slice (some ⟨w.heap.size, 0, none⟩) 1 1] (w.alloc (.cells #[.slice A xs.length c] 40)) fun e w' => e = .returned (.int .u16 (sumOf xs)) ∧ Below (w.alloc (.cells #[.slice A xs.length c] 40)).heap.size (w.alloc (.cells #[.slice A xs.length c] 40)) w' := by
  have hl : Lists (w.alloc (.cells #[.slice A xs.length c] 40)) (some ⟨w.heap.size, 0, none⟩) [rowOf A c xs] := by
    refine lists_of rfl ?_
    intro r hr
    have : r = rowOf A c xs := by simpa using hr
    subst this
    exact h
  have := of_calls (some ⟨w.heap.size, 0, none⟩) 1 [rowOf A c xs] (by simp) _ hl
  have e : flatB [rowOf A c xs] = xs := by simp [flatB, rowOf]
  rw [e] at this
  exact this
theorem check_one (A : Option Addr) (c : Nat) (xs : List Int) (w : World) (h : In w A xs) :
    Calls Try.prog 28 #[.slice (some ⟨w.heap.size, 0, none⟩) 1 1] (w.alloc (.cells #[.slice A xs.length c] 40)) fun e w' => e = .returned (.int .u16 (65535 - sumOf xs)) ∧ Below w.heap.size w w' :=
  (check_calls _ _ _ _ _ (sum_bd xs) (of_one' A c xs w h)).mono fun _ _ ⟨h1, h2⟩ => ⟨h1, below_then ((Below.refl _ w).alloc (Nat.le_refl _) _) (by simp) h2⟩
/-- A row of the call's own, to which bytes came. -/
theorem own_in {w : World} {base e n cap g : Nat} {xs : List Int} {us : List Value} (h : w.ownsRow base e 1 (.slice (some ⟨g, 0, none⟩) n cap) n us) (hu : us = xs.flatMap encB) (hl : xs.length ≤ 140737488351300) (hb : Bytes xs) : In w (some ⟨g, 0, none⟩) xs :=
  ⟨Reps.own (by rw [← hu]; exact h) encB_len, hl, hb⟩
set_option maxRecDepth 100000 in
set_option maxHeartbeats 2000000 in
theorem within_walk (A : Option Addr) (c : Nat) (xs : List Int) (w : World) (h : In w A xs) (hnil : A = none → c = 0) (hsmall : xs.length ≤ 140737488351298) :
    Calls Try.prog 12 #[.slice A xs.length c] w (Yes w) := by
  obtain ⟨i0, hi, hz0, hz1, hz2⟩ := info_parts byteInfo
  have hl := h.len
  have H := Lib.hid h
  clear h
  by_cases he : xs.length % 2 = 0
  · have hd : ((xs.length : Int) % 2 != 0) = false := by simp; omega
    obtain ⟨k, hk⟩ : ∃ k, k = 65535 - sumOf xs := ⟨_, rfl⟩
    have hs := sum_bd xs
    have HF := Lib.hid (within xs H.out.bytes he k hk)
    have k0 : 0 ≤ k := by omega
    have k1 : k ≤ 65535 := by omega
    have HB2 := Lib.hid (bytes_two k k0 k1)
    have CK := Lib.hid (fun (W : World) (hB : Below w.heap.size w W) => hk ▸ check_one A c xs W (H.out.below hB))
    clear hs hk
    rcases A with _ | ad
    · obtain rfl := H.out.nil
      obtain rfl := hnil rfl
      go_enter Try.func12, Try.ntmps12
      go_wp2_with fail
      refine (known_calls _).mono ?_
      rintro e w1 ⟨rfl, b1⟩
      have B1 := Lib.hid b1
      clear b1
      go_wp2_with fail
      refine (CK.out w1 B1.out).mono ?_
      rintro e w2 ⟨rfl, b2⟩
      have B2 := Lib.hid (below_then B1.out B1.out.size b2)
      have O2 := Lib.hid (own_base w2 w.heap.size B2.out.size)
      clear b2
      have B3 := Lib.hid (B2.out.alloc B2.out.size (.cells #[] 5))
      go_wp2_with (first | (at_builtin; refine wpList_append_own_none rfl (.tmp 14) (.tmp 15) 40 rfl w.heap.size 5 i0 1 Try.underlying40 hi (.slice (some ⟨w2.heap.size, 0, none⟩) 0 0) 0 [] rfl O2.out rfl ?_; obtain ⟨w4, hw4⟩ : ∃ w4, w4 = w2.alloc (.cells #[] 5) := ⟨_, rfl⟩; rw [← hw4] at O2 B3 ⊢; have O4 := O2; have B4 := B3; clear O2 B3 hw4) | (at_builtin; go_loud (refine wpList_append_own _ rfl (.tmp 16) (.tmp 22) 40 rfl w.heap.size 5 i0 (.int .u8 0) 1 1 Try.underlying40 hi hz0 hz1 hz2 rfl (by decide) (.slice (some ⟨w2.heap.size, 0, none⟩) 0 0) (0) ([]) rfl (O4.out.alloc _) ⟨w4.heap.size, 0, none⟩ 2 2 [.int .u8 (k / 256), .int .u8 (k % 256)] rfl rfl (blk_cells _ _ _ _ (Blk.new w4 5 #[.int .u8 (k / 256), .int .u8 (k % 256)])) (by simp [Value.oneCell']) (by unfold maxLen; omega) (by omega) (by have := B4.out.size; simp; omega) ?_; intro v6 w6 hown6 hg6 _; obtain ⟨gx, cap, rfl, hgx, hgl⟩ := hown6.form (by omega); have B6 := Lib.hid (grown_own (B4.out.alloc B4.out.size _) (by have := B4.out.size; simp; omega) (O4.out.alloc _) hg6); have O6 := Lib.hid hown6; have FN := Lib.hid (fine_calls (some ⟨gx, 0, none⟩) cap ([] ++ [k / 256, k % 256]) w6 (own_in O6.out (by simp [encB]) (by first | (simp; done) | (simp; omega)) (H.out.bytes.append HB2.out))); rw [show ([] ++ [k / 256, k % 256] : List Int).length = 2 from by simp, HF.out] at FN; clear hown6 hg6)))
      refine FN.out.mono ?_
      rintro e w7 ⟨rfl, b7⟩
      have B7 := Lib.hid (below_then B6.out B6.out.size b7)
      clear b7
      go_wp2_with (first | (go_at_call 24; refine (known_calls _).mono ?_; rintro e w8 ⟨rfl, b8⟩))
      go_ret
      exact ⟨rfl, below_then B7.out B7.out.size b8⟩
    · go_enter Try.func12, Try.ntmps12
      go_wp2_with fail
      refine (known_calls _).mono ?_
      rintro e w1 ⟨rfl, b1⟩
      have B1 := Lib.hid b1
      clear b1
      go_wp2_with fail
      refine (CK.out w1 B1.out).mono ?_
      rintro e w2 ⟨rfl, b2⟩
      have B2 := Lib.hid (below_then B1.out B1.out.size b2)
      have O2 := Lib.hid (own_base w2 w.heap.size B2.out.size)
      have B3 := Lib.hid (B2.out.alloc B2.out.size (.cells #[] 5))
      clear b2
      go_wp2_with (first | (at_builtin; refine wpList_append_own _ rfl (.tmp 14) (.tmp 15) 40 rfl w.heap.size 5 i0 (.int .u8 0) 1 1 Try.underlying40 hi hz0 hz1 hz2 rfl (by decide) (.slice (some ⟨w2.heap.size, 0, none⟩) 0 0) 0 [] rfl O2.out ad xs.length c (xs.flatMap encB) rfl (byte_flat xs) ((H.out.below B3.out).reps.cells encB_len (by decide) ad rfl) (byte_one xs) (by unfold maxLen; omega) (by omega) (by have := B3.out.size; simpa using this) ?_; intro v4 w4 hown4 hg4 _; have B4 := Lib.hid (grown_own B3.out B3.out.size O2.out hg4); have O4 := Lib.hid hown4; clear hown4 hg4 O2) | (at_builtin; go_loud (refine wpList_append_own _ rfl (.tmp 16) (.tmp 22) 40 rfl w.heap.size 5 i0 (.int .u8 0) 1 1 Try.underlying40 hi hz0 hz1 hz2 rfl (by decide) v4 (0 + xs.length) ([] ++ xs.flatMap encB) rfl (O4.out.alloc _) ⟨w4.heap.size, 0, none⟩ 2 2 [.int .u8 (k / 256), .int .u8 (k % 256)] rfl rfl (blk_cells _ _ _ _ (Blk.new w4 5 #[.int .u8 (k / 256), .int .u8 (k % 256)])) (by simp [Value.oneCell']) (by unfold maxLen; omega) (by omega) (by have := B4.out.size; simp; omega) ?_; intro v6 w6 hown6 hg6 _; obtain ⟨gx, cap, rfl, hgx, hgl⟩ := hown6.form (by omega); have B6 := Lib.hid (grown_own (B4.out.alloc B4.out.size _) (by have := B4.out.size; simp; omega) (O4.out.alloc _) hg6); have O6 := Lib.hid hown6; have FN := Lib.hid (fine_calls (some ⟨gx, 0, none⟩) cap (xs ++ [k / 256, k % 256]) w6 (own_in O6.out (by simp [encB]) (by first | (simp; done) | (simp; omega)) (H.out.bytes.append HB2.out))); rw [show (xs ++ [k / 256, k % 256] : List Int).length = xs.length + 2 from by simp, HF.out] at FN; clear hown6 hg6)))
      refine FN.out.mono ?_
      rintro e w7 ⟨rfl, b7⟩
      have B7 := Lib.hid (below_then B6.out B6.out.size b7)
      clear b7
      go_wp2_with (first | (go_at_call 24; refine (known_calls _).mono ?_; rintro e w8 ⟨rfl, b8⟩))
      go_ret
      exact ⟨rfl, below_then B7.out B7.out.size b8⟩
  · have hd : ((xs.length : Int) % 2 != 0) = true := by simp; omega
    go_enter Try.func12, Try.ntmps12
    go_wp2_with fail
    refine (known_calls _).mono ?_
    rintro e w1 ⟨rfl, b1⟩
    go_wp2_with fail
    refine (known_calls _).mono ?_
    rintro e w2 ⟨rfl, b2⟩
    go_wp2
    go_ret
    exact ⟨rfl, below_then b1 b1.size b2⟩
end Go.Proofs.Ytmkinnkndjmpbaa.Sum
