/- Chapter 06: the document's Below, From and Hull. -/
import Derived.Test.YtfbjmaajdblbfaaSpanHoldsRef
import Derived.Test.YtfbjmaajdblbfaaSpanC
set_option linter.unusedSimpArgs false
set_option linter.unusedVariables false
attribute [local go_sem ↓] Go.wp_at_zero Go.wp_at_succ
namespace Go.Proofs.Ytfbjmaajdblbfaa.Spans
open Go.BigFrame Go.RowKit Go.OpenShut Go.Proofs.Ytfbjmaajdblbfaa.Aid
attribute [local go_sem] max_2 min_2 max2_i min2_i
set_option maxHeartbeats 4000000 in
theorem rbelow_calls (s : Span) (off : Int) (w : World) : Calls Try.prog 19 #[.agg #[.int .i64 s.lo, .int .i64 s.hi], .int .i64 off] w (Gives w (.agg #[.int .i64 (below s off).lo, .int .i64 (below s off).hi])) := by
  have hr := below_ref s off
  generalize below s off = r at *
  by_cases h : off < 0
  · rw [if_pos h] at hr
    subst hr
    go_enter Try.func19, Try.ntmps19
    go_wp2
    refine bodyPost_ret (v := .agg #[.int .i64 0, .int .i64 0]) (by simp [results, Try.results19, go_sem]) rfl ⟨rfl, ?_⟩
    exact bn_alloc (bn_alloc (Below.refl _ w) _) _
  · rw [if_neg h] at hr
    have M := Lib.hid (meet_ref s ⟨0, min off 4611686018427387904⟩)
    rw [← hr] at M
    clear hr
    go_enter Try.func19, Try.ntmps19
    go_wp2_with fail
    refine (M.out _).mono ?_
    rintro e w1 ⟨rfl, b1⟩
    obtain ⟨hc, hf⟩ := bcell b1
    have hz : w.heap.size + 1 < w1.heap.size := by have := b1.size; simp at this; omega
    have B1 := bn_then (bn_alloc (bn_alloc (Below.refl _ w) _) _) b1
    go_wp2
    refine bodyPost_ret (v := .agg #[.int .i64 r.lo, .int .i64 r.hi]) (by simp [results, Try.results19, go_sem, hc]) rfl ⟨rfl, ?_⟩
    exact bn_set (bn_set B1 (by dsimp only; omega) _) (by dsimp only; omega) _
set_option maxHeartbeats 4000000 in
theorem rfrom_calls (s : Span) (off : Int) (w : World) : Calls Try.prog 21 #[.agg #[.int .i64 s.lo, .int .i64 s.hi], .int .i64 off] w (Gives w (.agg #[.int .i64 (from_ s off).lo, .int .i64 (from_ s off).hi])) := by
  have hr := from_ref s off
  generalize from_ s off = r at *
  by_cases h : 4611686018427387904 < off
  · rw [if_pos h] at hr
    subst hr
    go_enter Try.func21, Try.ntmps21
    go_wp2
    refine bodyPost_ret (v := .agg #[.int .i64 0, .int .i64 0]) (by simp [results, Try.results21, go_sem]) rfl ⟨rfl, ?_⟩
    exact bn_alloc (bn_alloc (Below.refl _ w) _) _
  · rw [if_neg h] at hr
    have M := Lib.hid (meet_ref s ⟨max off 0, 4611686018427387904⟩)
    rw [← hr] at M
    clear hr
    go_enter Try.func21, Try.ntmps21
    go_wp2_with fail
    refine (M.out _).mono ?_
    rintro e w1 ⟨rfl, b1⟩
    obtain ⟨hc, hf⟩ := bcell b1
    have hz : w.heap.size + 1 < w1.heap.size := by have := b1.size; simp at this; omega
    have B1 := bn_then (bn_alloc (bn_alloc (Below.refl _ w) _) _) b1
    go_wp2
    refine bodyPost_ret (v := .agg #[.int .i64 r.lo, .int .i64 r.hi]) (by simp [results, Try.results21, go_sem, hc]) rfl ⟨rfl, ?_⟩
    exact bn_set (bn_set B1 (by dsimp only; omega) _) (by dsimp only; omega) _
def box (s : Span) : Array Value := #[.int .i64 s.lo, .int .i64 s.hi]
theorem len_plain (s : Span) : len (plain s) = len s := by
  unfold len
  rw [plain_id (plain_plain s)]
theorem hull1_none {o s : Span} (h : len s = 0) : hull1 o s = o := by
  unfold hull1
  rw [if_pos ((len_zero s).1 h)]
theorem hull1_first {o s : Span} (h : len s ≠ 0) (g : len o = 0) : hull1 o s = plain s := by
  have hn : none s = false := by
    cases e : none s with
    | false => rfl
    | true => exact absurd ((len_zero s).2 e) h
  unfold hull1
  rw [if_neg (by rw [hn]; simp), if_pos ((len_zero o).1 g), (none_false s hn).2.2.2]
theorem hull1_more {o s : Span} (h : len s ≠ 0) (g : len o ≠ 0) : hull1 o s = ⟨min o.lo (plain s).lo, max o.hi (plain s).hi⟩ := by
  have hn : none s = false := by
    cases e : none s with
    | false => rfl
    | true => exact absurd ((len_zero s).2 e) h
  have gn : ¬ none o = true := fun e => g ((len_zero o).2 e)
  unfold hull1
  rw [if_neg (by rw [hn]; simp), if_neg gn, (none_false s hn).2.2.2]
set_option maxRecDepth 100000 in
set_option maxHeartbeats 8000000 in
theorem rhull_calls (A : Option Addr) (c : Nat) (xs : List Span) (w : World) (hl : xs.length ≤ 9223372036854775807) (hR : Go.Proofs.Ytfbjmaajdblbfaa.Aid.Reps w A 2 encS xs) :
    Calls Try.prog 22 #[.slice A xs.length c] w (Gives w (.agg #[.int .i64 (hull xs).lo, .int .i64 (hull xs).hi])) := by
  have R := Lib.hid hR
  clear hR
  have X0 := Lib.hid ((Blk.new w 23 #[.int .i64 0, .int .i64 0]).alloc (.cells #[.int .i64 0, .int .i64 0] 23))
  have Y0 : Hid (Blk ((w.alloc (.cells #[.int .i64 0, .int .i64 0] 23)).alloc (.cells #[.int .i64 0, .int .i64 0] 23)) (w.heap.size + 1) 23 (box ⟨0, 0⟩)) := Lib.hid (by
    have := Blk.new (w.alloc (.cells #[.int .i64 0, .int .i64 0] 23)) 23 #[.int .i64 0, .int .i64 0]
    simpa [box] using this)
  have B0 := Lib.hid (bn_alloc (bn_alloc (Below.refl _ w) (.cells #[.int .i64 0, .int .i64 0] 23)) (.cells #[.int .i64 0, .int .i64 0] 23))
  go_enter Try.func22, Try.ntmps22
  go_wp2
  go_loopw [4] (fun i wr => ∃ k : Nat, k ≤ xs.length ∧ i = .int .i64 k ∧ Hid (Blk wr w.heap.size 23 #[.int .i64 0, .int .i64 0]) ∧ Hid (Blk wr (w.heap.size + 1) 23 (box (hull (xs.take k)))) ∧ Hid (Below w.heap.size w wr)) (fun i _ => xs.length - (intOf i).toNat)
  case atStart => exact ⟨0, by omega, rfl, X0, Y0, B0⟩
  case round =>
    obtain ⟨k, hk, rfl, hX, hY, hB⟩ := hrel
    clear X0 Y0 B0
    by_cases hlt : k < xs.length
    · obtain ⟨x, hx⟩ : ∃ x, xs[k]? = some x := ⟨_, List.getElem?_eq_getElem hlt⟩
      obtain ⟨ad, rfl, had, hc⟩ := (R.out.below hB.out) k x hx
      have c0 : wr.cell? (ad.add (k * 2)) = some (.int .i64 x.lo) := hc 0 _ rfl
      have c1 : wr.cell? ⟨(ad.add (k * 2)).block, (ad.add (k * 2)).off + 1, Option.none⟩ = some (.int .i64 x.hi) := (add_next ad (k * 2) 1 (by omega)) ▸ hc 1 _ rfl
      have htk : xs.take (k + 1) = xs.take k ++ [x] := by rw [List.take_succ_eq_append_getElem hlt, (List.getElem?_eq_some_iff.1 hx).2]
      have hh : hull (xs.take (k + 1)) = hull1 (hull (xs.take k)) x := by rw [htk, hull_snoc]
      have HP := Lib.hid (hull_plain (xs.take k))
      have HH := Lib.hid hh
      clear hc hx htk hh
      generalize hull (xs.take k) = o at *
      have M := Lib.hid (of_ref x)
      have L1 := Lib.hid (len_ref (plain x))
      have L2 := Lib.hid (len_ref o)
      rw [len_plain] at L1
      have hk0 : (0 : Int) ≤ (k : Int) := by omega
      go_wp2_with fail
      refine (M.out _).mono ?_
      rintro e w1 ⟨rfl, b1⟩
      have X1 := Lib.hid ((hX.out.below b1 hX.out.lt).alloc (.cells #[.int .i64 (plain x).lo, .int .i64 (plain x).hi] 23))
      have Y1 := Lib.hid ((hY.out.below b1 hY.out.lt).alloc (.cells #[.int .i64 (plain x).lo, .int .i64 (plain x).hi] 23))
      have Z1 := Lib.hid (Blk.new w1 23 #[.int .i64 (plain x).lo, .int .i64 (plain x).hi])
      have B1 := Lib.hid (bn_alloc (bn_then hB.out b1) (.cells #[.int .i64 (plain x).lo, .int .i64 (plain x).hi] 23))
      have HSZ : Hid (w.heap.size + 1 < w1.heap.size) := Lib.hid (Nat.lt_of_lt_of_le hY.out.lt b1.size)
      clear b1 c0 c1 hX hY hB
      go_wp2_with fail
      refine (L1.out _).mono ?_
      rintro e w2 ⟨rfl, b2⟩
      have X2 := Lib.hid (X1.out.below b2 X1.out.lt)
      have Y2 := Lib.hid (Y1.out.below b2 Y1.out.lt)
      have Z2 := Lib.hid (Z1.out.below b2 Z1.out.lt)
      have B2 := Lib.hid (bn_then B1.out b2)
      clear b2 X1 Y1 Z1 B1
      by_cases h1 : len x = 0
      · have h1a : (len x == 0) = true := by simpa using h1
        have h1b : decide (len x = 0) = true := by simpa using h1
        have HE := Lib.hid (hull1_none (o := o) h1)
        clear h1
        go_wp2
        go_roundw
        case rel => exact ⟨k + 1, by omega, by go_num, X2, Lib.hid (by rw [HH.out, HE.out]; exact Y2.out), B2⟩
        case measure => simp [intOf]; omega
      · have h1a : (len x == 0) = false := by simpa using h1
        have h1b : decide (len x = 0) = false := by simpa using h1
        have d0 : w2.cell? ⟨w.heap.size + 1, 0, Option.none⟩ = some (.int .i64 o.lo) := Y2.out.cell 0
        have d1 : w2.cell? ⟨w.heap.size + 1, 1, Option.none⟩ = some (.int .i64 o.hi) := Y2.out.cell 1
        go_wp2_with fail
        refine (L2.out _).mono ?_
        rintro e w3 ⟨rfl, b3⟩
        have X3 := Lib.hid (X2.out.below b3 X2.out.lt)
        have Y3 := Lib.hid (Y2.out.below b3 Y2.out.lt)
        have Z3 := Lib.hid (Z2.out.below b3 Z2.out.lt)
        have B3 := Lib.hid (bn_then B2.out b3)
        clear b3 d0 d1
        have s1 : w.heap.size + 1 ≠ w1.heap.size := by have := HSZ.out; omega
        have s2 : w1.heap.size ≠ w.heap.size + 1 := s1.symm
        clear X2 Y2 Z2 B2
        have d0 : w3.cell? ⟨w.heap.size + 1, 0, Option.none⟩ = some (.int .i64 o.lo) := Y3.out.cell 0
        have d1 : w3.cell? ⟨w.heap.size + 1, 1, Option.none⟩ = some (.int .i64 o.hi) := Y3.out.cell 1
        have d2 : w3.cell? ⟨w1.heap.size, 0, Option.none⟩ = some (.int .i64 (plain x).lo) := Z3.out.cell 0
        have d3 : w3.cell? ⟨w1.heap.size, 1, Option.none⟩ = some (.int .i64 (plain x).hi) := Z3.out.cell 1
        have fz : ∀ i, w3.frozen? ⟨w.heap.size + 1, i, Option.none⟩ = false := Y3.out.frozen
        by_cases h2 : len o = 0
        · have h2a : (len o == 0) = true := by simpa using h2
          have h2b : decide (len o = 0) = true := by simpa using h2
          have HE := Lib.hid (hull1_first h1 h2)
          clear h1 h2
          generalize plain x = p at *
          go_wp2
          go_roundw
          case rel => exact ⟨k + 1, by omega, by go_num, Lib.hid ((X3.out.far (p := ⟨w.heap.size + 1, 0, Option.none⟩) (by simp) _).far (p := ⟨w.heap.size + 1, 1, Option.none⟩) (by simp) _), Lib.hid (by rw [HH.out, HE.out]; exact ((Y3.out.set_ 0 _).set_ 1 _).eq (by simp [box])), Lib.hid (bn_set (bn_set B3.out (by dsimp only; omega) _) (by dsimp only; omega) _)⟩
          case measure => simp [intOf]; omega
        · have h2a : (len o == 0) = false := by simpa using h2
          have h2b : decide (len o = 0) = false := by simpa using h2
          have HE := Lib.hid (hull1_more h1 h2)
          clear h1 h2
          generalize plain x = p at *
          by_cases h3 : p.lo < o.lo
          · by_cases h4 : o.hi < p.hi
            · go_wp2
              go_roundw
              case rel => exact ⟨k + 1, by omega, by go_num, Lib.hid ((X3.out.far (p := ⟨w.heap.size + 1, 0, Option.none⟩) (by simp) _).far (p := ⟨w.heap.size + 1, 1, Option.none⟩) (by simp) _), Lib.hid (by rw [HH.out, HE.out]; exact ((Y3.out.set_ 0 _).set_ 1 _).eq (by simp [box]; omega)), Lib.hid (bn_set (bn_set B3.out (by dsimp only; omega) _) (by dsimp only; omega) _)⟩
              case measure => simp [intOf]; omega
            · go_wp2
              go_roundw
              case rel => exact ⟨k + 1, by omega, by go_num, Lib.hid (X3.out.far (by simp) _), Lib.hid (by rw [HH.out, HE.out]; exact (Y3.out.set_ 0 _).eq (by simp [box]; omega)), Lib.hid (bn_set B3.out (by dsimp only; omega) _)⟩
              case measure => simp [intOf]; omega
          · by_cases h4 : o.hi < p.hi
            · go_wp2
              go_roundw
              case rel => exact ⟨k + 1, by omega, by go_num, Lib.hid (X3.out.far (by simp) _), Lib.hid (by rw [HH.out, HE.out]; exact (Y3.out.set_ 1 _).eq (by simp [box]; omega)), Lib.hid (bn_set B3.out (by dsimp only; omega) _)⟩
              case measure => simp [intOf]; omega
            · go_wp2
              go_roundw
              case rel => exact ⟨k + 1, by omega, by go_num, X3, Lib.hid (by rw [HH.out, HE.out]; exact Y3.out.eq (by simp [box]; omega)), B3⟩
              case measure => simp [intOf]; omega
    · obtain rfl : k = xs.length := by omega
      have d0 : wr.cell? ⟨w.heap.size + 1, 0, Option.none⟩ = some (.int .i64 (hull (xs.take xs.length)).lo) := hY.out.cell 0
      have d1 : wr.cell? ⟨w.heap.size + 1, 1, Option.none⟩ = some (.int .i64 (hull (xs.take xs.length)).hi) := hY.out.cell 1
      rw [List.take_length] at d0 d1
      have d2 : wr.cell? ⟨w.heap.size, 0, Option.none⟩ = some (.int .i64 0) := hX.out.cell 0
      have d3 : wr.cell? ⟨w.heap.size, 1, Option.none⟩ = some (.int .i64 0) := hX.out.cell 1
      have fz : ∀ i, wr.frozen? ⟨w.heap.size, i, Option.none⟩ = false := hX.out.frozen
      generalize hull xs = r at *
      go_wp2
      refine bodyPost_ret (v := .agg #[.int .i64 r.lo, .int .i64 r.hi]) (by simp [results, Try.results22, go_sem, d2, d3]) rfl ⟨rfl, ?_⟩
      exact bn_set (bn_set hB.out (by dsimp only; omega) _) (by dsimp only; omega) _
end Go.Proofs.Ytfbjmaajdblbfaa.Spans
