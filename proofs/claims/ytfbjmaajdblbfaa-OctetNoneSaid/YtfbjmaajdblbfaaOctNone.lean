/- OctetNone: a writer and a reader that are none do nothing; a reader's bytes are its own. -/
import Derived.Test.YtfbjmaajdblbfaaOctBack
set_option linter.unusedSimpArgs false
set_option linter.unusedVariables false
attribute [local go_sem ↓] Go.wp_at_zero Go.wp_at_succ
namespace Go.Proofs.Ytfbjmaajdblbfaa.Oct
open Go.RowKit Go.OpenShut Go.Proofs.Ytfbjmaajdblbfaa.Aid
theorem row_store {w : World} {b n cap k : Nat} {ys : List Int} (h : RowOf 5 1 encB w (.slice (some ⟨b, 0, none⟩) n cap) ys) (hk : k < ys.length) (y : Int) : RowOf 5 1 encB (w.setCell ⟨b, k, none⟩ (.int .u8 y)) (.slice (some ⟨b, 0, none⟩) n cap) (ys.set k y) := by
  obtain ⟨h0, _⟩ | ⟨b', cap', cur, h0, r1, r2, r3, r4, r5⟩ := h
  · injection h0 with h1
    cases h1
  · injection h0 with h1 h2 h3
    obtain rfl : b = b' := by simpa using h1
    subst h2 h3
    refine .inr ⟨b, cap, cur.setIfInBounds k (.int .u8 y), by simp, by simpa using r1, r2, Blk.set_ r3 k _, by simpa using r4, ?_⟩
    have e : ∀ zs : List Int, zs.flatMap encB = zs.map (Value.int .u8) := fun zs => by
      induction zs with
      | nil => rfl
      | cons z zs ih => rw [List.flatMap_cons, ih]; rfl
    rw [Array.toList_setIfInBounds, List.length_set, List.take_set, r5, e, e, List.map_set]
theorem IsR.far {w w' : World} {g b cap at_ : Nat} {xs : List Int} (h : IsR w g b cap at_ xs) (h1 : w'.heap[g]? = w.heap[g]?) (h2 : w'.heap[b]? = w.heap[b]?) : IsR w' g b cap at_ xs :=
  ⟨h1.trans h.box, h.row.same (fun k hk => by
    have : b = k := by simpa [Value.ownBlock] using hk
    subst this
    exact h2), h.apart, h.le, h.lim, h.room⟩
set_option maxRecDepth 100000 in
set_option maxHeartbeats 8000000 in
theorem none_walk (A : Option Addr) (c : Nat) (xs : List Int) (n : Int) (w : World) (hA : A = none → c = 0) (hl : xs.length ≤ 140737488355328) (hw : ∀ x ∈ xs, 0 ≤ x ∧ x ≤ 255) (hr : Reps w A 1 encB xs) :
    Calls Try.prog 11 #[.slice A xs.length c, .int .i64 n] w (Yes w) := by
  obtain ⟨i0, hi, hz0, hz1, hz2⟩ := info_parts info5
  have R := Lib.hid hr
  have HW := Lib.hid hw
  have HAA := Lib.hid hA
  clear hr hw hA
  go_enter Try.func11, Try.ntmps11
  go_wp2_with fail
  refine (known_calls _).mono ?_
  rintro e w1 ⟨rfl, b1⟩
  have B1 := Lib.hid b1
  clear b1
  go_wp2_with fail
  refine (one_none _ _).mono ?_
  rintro e w2 ⟨rfl, rfl⟩
  go_wp2_with fail
  refine (two_none _ _).mono ?_
  rintro e w2 ⟨rfl, rfl⟩
  go_wp2_with fail
  refine (four_none _ _).mono ?_
  rintro e w2 ⟨rfl, rfl⟩
  go_wp2_with fail
  refine (all_none _ _).mono ?_
  rintro e w2 ⟨rfl, rfl⟩
  go_wp2_with fail
  refine (rone_none _).mono ?_
  rintro e w2 ⟨rfl, rfl⟩
  go_wp2_with fail
  refine (rtwo_none _).mono ?_
  rintro e w2 ⟨rfl, rfl⟩
  go_wp2_with fail
  refine (rfour_none _).mono ?_
  rintro e w2 ⟨rfl, rfl⟩
  go_wp2_with fail
  refine (take_none _ _).mono ?_
  rintro e w2 ⟨v2, rfl, hr2, b2⟩
  obtain ⟨A2, c2, rfl, _⟩ := hr2.slice
  have B2 := Lib.hid (below_then B1.out B1.out.size b2)
  clear hr2 b2
  unfold two
  simp only [List.length_nil]
  go_wp2_with fail
  refine (len_none _).mono ?_
  rintro e w3 ⟨rfl, rfl⟩
  go_wp2_with fail
  refine (bytes_none _).mono ?_
  rintro e w3 ⟨v3, rfl, hr3, b3, _⟩
  obtain ⟨A3, c3, rfl, _⟩ := hr3.slice
  have B3 := Lib.hid (below_then B2.out B2.out.size b3)
  clear hr3 b3
  simp only [List.length_nil]
  go_wp2_with fail
  refine (left_none _).mono ?_
  rintro e w4 ⟨rfl, rfl⟩
  go_wp2_with fail
  refine (rest_none _).mono ?_
  rintro e w4 ⟨rfl, rfl⟩
  have R3 := Lib.hid ((R.out.below B3.out).below ((Below.refl _ w3).alloc (Nat.le_refl _) (.cells #[] 5)))
  go_wp2_with (at_builtin; refine wpList_append_any (by rfl) _ _ 43 (by rfl) i0 _ 1 Try.underlying43 hi hz0 hz1 hz2 (by decide) (by decide) encB_len encB_one (.slice (some ⟨w3.heap.size, 0, none⟩) 0 0) ([] : List Int) (by rfl) (row_new w3) A xs.length c xs rfl (by rfl) HAA.out R3.out ?k2 ?k3 ?k4)
  case k2 => simp; unfold maxLen; omega
  case k3 => simp; omega
  case k4 =>
    intro v4 w4 hr4 ha4
    have hr4 : RowOf 5 1 encB w4 v4 xs := hr4
    have B4 := Lib.hid (below_then B3.out B3.out.size (below_app ((Below.refl _ w3).alloc (Nat.le_refl _) (.cells #[] 5)) ha4 (fun k hk => by
      have : w3.heap.size = k := by simpa [Value.ownBlock] using hk
      omega)))
    have HO : Hid (∀ k, v4.ownBlock = some k → w.heap.size ≤ k) := Lib.hid (fun k hk => by
      have := B3.out.size
      rcases ha4.own k hk with h1 | h1
      · have : w3.heap.size = k := by simpa [Value.ownBlock] using h1
        omega
      · simp at h1
        omega)
    obtain ⟨A4, c4, rfl, hA4, hR4⟩ := row_source hr4
    have HR4 := Lib.hid hr4
    clear ha4 hr4
    go_wp2_with fail
    refine (newr_calls A4 c4 xs w4 hA4 hR4 hl).mono ?_
    rintro e w5 ⟨g, b, cap, rfl, hI, b5, hg5, hb5⟩
    have HR5 := Lib.hid (HR4.out.below b5)
    have HI := Lib.hid hI
    have HLT := Lib.hid (HR4.out.lt)
    have B5 := Lib.hid (below_then B4.out B4.out.size b5)
    have HG := Lib.hid hg5
    have HBB := Lib.hid hb5
    clear b5 hI hA4 hR4 hg5 hb5 HR4
    go_wp2
    go_loopw [17] (fun i wr => ∃ (k : Nat) (ys : List Int), k ≤ xs.length ∧ i = .int .i64 k ∧ Hid (ys.length = xs.length) ∧ Hid (∀ y ∈ ys, 0 ≤ y ∧ y ≤ 255) ∧ Hid (RowOf 5 1 encB wr (.slice A4 xs.length c4) ys) ∧ Hid (IsR wr g b cap 0 xs) ∧ Hid (Below w.heap.size w wr)) (fun i _ => xs.length - (intOf i).toNat)
    case atStart => exact ⟨0, xs, by omega, rfl, Lib.hid rfl, HW, HR5, HI, B5⟩
    case round =>
      obtain ⟨k, ys, hk, rfl, hyl, hyb, hY, hI, hB⟩ := hrel
      clear HR5 HI B5
      by_cases hlt : k < xs.length
      · obtain ⟨y, hy⟩ : ∃ y, ys[k]? = some y := ⟨_, List.getElem?_eq_getElem (by rw [hyl.out]; exact hlt)⟩
        obtain ⟨h0, h00⟩ | ⟨b4, cap4, cur, h0, r1, r2, r3, r4, r5⟩ := id hY.out
        · exfalso
          have := hyl.out
          rw [h00] at this
          simp at this
          omega
        · injection h0 with h1 h2 h3
          subst h1 h3
          have c0 : wr.cell? ⟨b4, k, none⟩ = some (.int .u8 y) := by
            refine hY.out.cell encB_len k _ ?_
            have := flat_get encB 1 encB_len ys k y 0 _ hy rfl
            simpa using this
          have fz : wr.frozen? ⟨b4, k, none⟩ = false := Blk.frozen r3 k
          obtain ⟨y0, y1⟩ := hyb.out y (List.mem_of_getElem? hy)
          have n1 : b4 < w4.heap.size := HLT.out b4 (by simp [Value.ownBlock])
          have n2 : g ≠ b4 := by have := HG.out; omega
          have n3 : b ≠ b4 := by have := HBB.out; omega
          have n4 : w.heap.size ≤ b4 := HO.out b4 (by simp [Value.ownBlock])
          have q0 : (0 : Int) ≤ (k : Int) := by omega
          have q1 : (k : Int) < (xs.length : Int) := by omega
          have N := Lib.hid (And.intro n2 (And.intro n3 n4))
          clear h2 r1 r2 r3 r4 r5 n1 n2 n3 n4 hy
          go_wp2
          go_roundw
          case rel => exact ⟨k + 1, _, by omega, by go_num, Lib.hid (by rw [List.length_set]; exact hyl.out), Lib.hid (fun z hz => by
            rcases List.mem_or_eq_of_mem_set hz with h1 | h1
            · exact hyb.out z h1
            · rw [h1]; omega), Lib.hid (row_store hY.out (by rw [hyl.out]; exact hlt) _), Lib.hid (hI.out.far (Below.heap_setCell wr _ _ _ N.out.1) (Below.heap_setCell wr _ _ _ N.out.2.1)), Lib.hid (hB.out.setCell (by exact N.out.2.2) _)⟩
          case measure => simp [intOf]; omega
      · have q1 : ¬ (k : Int) < (xs.length : Int) := by omega
        go_wp2_with fail
        refine (rest_calls g b cap 0 xs wr hI.out).mono ?_
        rintro e w6 ⟨v6, rfl, hr6, b6, _⟩
        rw [List.drop_zero] at hr6
        obtain ⟨A6, c6, rfl, _, hR6⟩ := row_source hr6
        have B6 := Lib.hid (below_then hB.out hB.out.size b6)
        have HR6 := Lib.hid hR6
        clear hr6 b6 hR6
        go_wp2_with fail
        refine (same_calls A6 A c6 c xs w6 HR6.out (R.out.below B6.out) (by omega)).mono ?_
        rintro e w7 ⟨rfl, b7⟩
        have B7 := Lib.hid (below_then B6.out B6.out.size b7)
        clear b7
        go_wp2_with fail
        refine (known_calls _).mono ?_
        rintro e w8 ⟨rfl, b8⟩
        have B8 := Lib.hid (below_then B7.out B7.out.size b8)
        clear b8
        go_wp2
        go_ret
        exact ⟨rfl, B8.out⟩
end Go.Proofs.Ytfbjmaajdblbfaa.Oct
