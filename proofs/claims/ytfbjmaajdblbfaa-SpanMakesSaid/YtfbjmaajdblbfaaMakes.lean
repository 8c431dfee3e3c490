/- SpanMakes: what two spans have in common, the least one that holds any of them, and what is below and above an offset. -/
import Derived.Test.YtfbjmaajdblbfaaSpanHull
import Derived.Test.YtfbjmaajdblbfaaSpanC
import Derived.Deep.DeepCutAuto
import Derived.IntWalk
set_option linter.unusedSimpArgs false
set_option linter.unusedVariables false
attribute [local go_sem ↓] Go.wp_at_zero Go.wp_at_succ
namespace Go.Proofs.Ytfbjmaajdblbfaa.Spans
open Go.BigFrame Go.RowKit Go.OpenShut Go.Proofs.Ytfbjmaajdblbfaa.Aid
attribute [local go_sem high] eq_spans
def YesM (w : World) (e : Ending) (w' : World) : Prop := e = .returned (.bool true) ∧ Below w.heap.size w w'
structure Two (w W : World) (g1 g2 : Nat) (s t : Span) : Prop where
  x : Blk W g1 23 #[.int .i64 s.lo, .int .i64 s.hi]
  y : Blk W g2 23 #[.int .i64 t.lo, .int .i64 t.hi]
  bel : Below w.heap.size w W
theorem two_st {w W : World} {s t : Span} (hB : Below w.heap.size w W) : Two w ((W.alloc (.cells #[.int .i64 s.lo, .int .i64 s.hi] 23)).alloc (.cells #[.int .i64 t.lo, .int .i64 t.hi] 23)) W.heap.size (W.heap.size + 1) s t := by
  refine ⟨(Blk.new W _ _).alloc _, ?_, bn_alloc (bn_alloc hB _) _⟩
  have := Blk.new (W.alloc (.cells #[.int .i64 s.lo, .int .i64 s.hi] 23)) 23 #[.int .i64 t.lo, .int .i64 t.hi]
  simpa using this
theorem two_ts {w W : World} {s t : Span} (hB : Below w.heap.size w W) : Two w ((W.alloc (.cells #[.int .i64 t.lo, .int .i64 t.hi] 23)).alloc (.cells #[.int .i64 s.lo, .int .i64 s.hi] 23)) (W.heap.size + 1) W.heap.size s t :=
  ⟨(two_st hB).y, (two_st hB).x, (two_st hB).bel⟩
set_option maxRecDepth 100000 in
set_option maxHeartbeats 8000000 in
theorem makes_walk (A : Option Addr) (c : Nat) (xs : List Span) (off : Int) (w : World) (hl : xs.length ≤ maxLen) (hcap : xs.length ≤ c) (hR : Go.Proofs.Ytfbjmaajdblbfaa.Aid.Reps w A 2 encS xs) :
    Calls Try.prog 4 #[.slice A xs.length c, .int .i64 off] w (YesM w) := by
  unfold maxLen at hl
  have R := Lib.hid hR
  have KN := Lib.hid known_c
  clear hR
  go_enter Try.func4, Try.ntmps4
  go_wp2_with fail
  refine (KN.out _).mono ?_
  rintro e w1 ⟨rfl, b1⟩
  have B1 := Lib.hid b1
  clear b1
  go_wp2
  go_loopw [5] (fun i wr => ∃ k : Nat, k ≤ xs.length ∧ k ≤ 60 ∧ i = .int .i64 k ∧ Hid (Below w.heap.size w wr)) (fun i _ => 60 - (intOf i).toNat)
  case atStart => exact ⟨0, by omega, by omega, rfl, B1⟩
  case round =>
    obtain ⟨k, hk, hk2, rfl, hB⟩ := hrel
    clear B1
    by_cases hlt : k < xs.length
    · by_cases hlt2 : k < 60
      · obtain ⟨s, hs⟩ : ∃ s, xs[k]? = some s := ⟨_, List.getElem?_eq_getElem hlt⟩
        obtain ⟨t, ht⟩ : ∃ t, xs[xs.length - 1 - k]? = some t := ⟨_, List.getElem?_eq_getElem (by omega)⟩
        obtain ⟨ad, rfl, had, hc⟩ := (R.out.below hB.out) k s hs
        obtain ⟨ad', e', _, hc'⟩ := (R.out.below hB.out) (xs.length - 1 - k) t ht
        cases e'
        have c0 : wr.cell? (ad.add (k * 2)) = some (.int .i64 s.lo) := hc 0 _ rfl
        have c1 : wr.cell? ⟨(ad.add (k * 2)).block, (ad.add (k * 2)).off + 1, Option.none⟩ = some (.int .i64 s.hi) := (add_next ad (k * 2) 1 (by omega)) ▸ hc 1 _ rfl
        have c2 : wr.cell? (ad.add ((xs.length - 1 - k) * 2)) = some (.int .i64 t.lo) := hc' 0 _ rfl
        have c3 : wr.cell? ⟨(ad.add ((xs.length - 1 - k) * 2)).block, (ad.add ((xs.length - 1 - k) * 2)).off + 1, Option.none⟩ = some (.int .i64 t.hi) := (add_next ad ((xs.length - 1 - k) * 2) 1 (by omega)) ▸ hc' 1 _ rfl
        have k0 : (0 : Int) ≤ (k : Int) := by omega
        have k1 : (k : Int) < (xs.length : Int) := by omega
        have k2 : (k : Int) < 60 := by omega
        have w1' : IntKind.i64.wrap ((xs.length : Int) - 1) = (xs.length : Int) - 1 := IntWalk.i64_in _ (by omega)
        have w2' : IntKind.i64.wrap ((xs.length : Int) - 1 - (k : Int)) = (xs.length : Int) - 1 - (k : Int) := IntWalk.i64_in _ (by omega)
        have i3 : (k : Int) ≤ (xs.length : Int) - 1 := by omega
        have i0 : (0 : Int) ≤ (xs.length : Int) - 1 - (k : Int) := by omega
        have i1 : (xs.length : Int) - 1 - (k : Int) < (xs.length : Int) := by omega
        have i2 : ((xs.length : Int) - 1 - (k : Int)).toNat = xs.length - 1 - k := by omega
        have n0 := World.new_ne wr _ c0
        have n1 := World.new_ne wr _ c1
        have n2 := World.new_ne wr _ c2
        have n3 := World.new_ne wr _ c3
        clear hs ht hc hc'
        go_upto_region 6 with fail
        go_cut [6, 7] (fun sa sb wx => ∃ g1 g2 : Nat, sa = .pointer (some ⟨g1, 0, Option.none⟩) ∧ sb = .pointer (some ⟨g2, 0, Option.none⟩) ∧ Hid (Two w wx g1 g2 s t))
        case first =>
          go_region_held3 (fun w' => w'.cell? (ad.add (k * 2)) = some (.int .i64 s.lo) ∧ w'.cell? ⟨(ad.add (k * 2)).block, (ad.add (k * 2)).off + 1, Option.none⟩ = some (.int .i64 s.hi) ∧ w'.cell? (ad.add ((xs.length - 1 - k) * 2)) = some (.int .i64 t.lo) ∧ w'.cell? ⟨(ad.add ((xs.length - 1 - k) * 2)).block, (ad.add ((xs.length - 1 - k) * 2)).off + 1, Option.none⟩ = some (.int .i64 t.hi)) (go_keep) (fail)
          · go_wp2_with fail
            go_meet
            exact ⟨_, _, rfl, rfl, Lib.hid (by first | exact two_st (bn_drew hB.out) | exact two_st hB.out)⟩
          · go_wp2_with fail
            go_meet
            exact ⟨_, _, rfl, rfl, Lib.hid (by first | exact two_ts (bn_drew hB.out) | exact two_ts hB.out)⟩
        case rest =>
          obtain ⟨g1, g2, rfl, rfl, F⟩ := hcut
          clear c0 c1 c2 c3 w1' w2' i0 i1 i2 n0 n1 n2 n3
          have a0 : wc.cell? ⟨g1, 0, Option.none⟩ = some (.int .i64 s.lo) := F.out.x.cell 0
          have e0 : ∀ d os, (Go.Sort.grow (redrawn wc d) os).cell? ⟨g1, 0, Option.none⟩ = some (.int .i64 s.lo) := fun d os => (F.out.x.regrown d os).cell 0
          have e1 : ∀ d os, (Go.Sort.grow (redrawn wc d) os).cell? ⟨g1, 1, Option.none⟩ = some (.int .i64 s.hi) := fun d os => (F.out.x.regrown d os).cell 1
          have e2 : ∀ d os, (Go.Sort.grow (redrawn wc d) os).cell? ⟨g2, 0, Option.none⟩ = some (.int .i64 t.lo) := fun d os => (F.out.y.regrown d os).cell 0
          have e3 : ∀ d os, (Go.Sort.grow (redrawn wc d) os).cell? ⟨g2, 1, Option.none⟩ = some (.int .i64 t.hi) := fun d os => (F.out.y.regrown d os).cell 1
          have q1 := Lib.hid (fun d os => Calls.regrown_of (meet_c s t (Go.Sort.grow (redrawn wc d) os)))
          have q2 := Lib.hid (fun d os => Calls.regrown_of (meet_ref s t (Go.Sort.grow (redrawn wc d) os)))
          have q3 := Lib.hid (fun d os => Calls.regrown_of (below_calls s off (Go.Sort.grow (redrawn wc d) os)))
          have q4 := Lib.hid (fun d os => Calls.regrown_of (rbelow_calls s off (Go.Sort.grow (redrawn wc d) os)))
          have q5 := Lib.hid (fun d os => Calls.regrown_of (from__calls s off (Go.Sort.grow (redrawn wc d) os)))
          have q6 := Lib.hid (fun d os => Calls.regrown_of (rfrom_calls s off (Go.Sort.grow (redrawn wc d) os)))
          generalize meet s t = m at *
          generalize below s off = bl at *
          generalize from_ s off = fr at *
          go_upto_region 7 with fail
          refine wp_region_quiet_below (by kernel_rfl) (by kernel_rfl) ?_
          repeat (go_big_quiet_step (first | exact q1.out _ _ | exact q2.out _ _ | exact q3.out _ _ | exact q4.out _ _ | exact q5.out _ _ | exact q6.out _ _))
          refine wpQuiet_nil ?_
          rintro _ ⟨⟨nq, osq⟩, rfl⟩
          go_wp2
          go_roundw
          case rel => exact ⟨k + 1, by omega, by omega, by go_num, Lib.hid (F.out.bel.trans ((below_regrown wc nq osq).mono F.out.bel.size))⟩
          case measure => simp [intOf]; omega
      · have k1 : (k : Int) < (xs.length : Int) := by omega
        have k2 : ¬ (k : Int) < 60 := by omega
        have HH := Lib.hid (hull_c xs (by omega) A c hcap)
        have RH := Lib.hid (rhull_calls A c xs)
        generalize hull xs = h at *
        go_wp2_with fail
        refine (HH.out _ (R.out.below hB.out)).mono ?_
        rintro e w3 ⟨rfl, b3⟩
        have B3 := Lib.hid (bn_then hB.out b3)
        clear b3
        go_wp2_with fail
        refine (RH.out w3 (by omega) (R.out.below B3.out)).mono ?_
        rintro e w4 ⟨rfl, b4⟩
        have B4 := Lib.hid (bn_then B3.out b4)
        clear b4
        go_wp2_with fail
        refine (KN.out _).mono ?_
        rintro e w5 ⟨rfl, b5⟩
        have B5 := Lib.hid (bn_then B4.out b5)
        clear b5
        go_wp2
        go_ret
        exact ⟨by first | rfl | (apply ret_bool; simp), B5.out⟩
    · have k1 : ¬ (k : Int) < (xs.length : Int) := by omega
      have HH := Lib.hid (hull_c xs (by omega) A c hcap)
      have RH := Lib.hid (rhull_calls A c xs)
      generalize hull xs = h at *
      go_wp2_with fail
      refine (HH.out _ (R.out.below hB.out)).mono ?_
      rintro e w3 ⟨rfl, b3⟩
      have B3 := Lib.hid (bn_then hB.out b3)
      clear b3
      go_wp2_with fail
      refine (RH.out w3 (by omega) (R.out.below B3.out)).mono ?_
      rintro e w4 ⟨rfl, b4⟩
      have B4 := Lib.hid (bn_then B3.out b4)
      clear b4
      go_wp2_with fail
      refine (KN.out _).mono ?_
      rintro e w5 ⟨rfl, b5⟩
      have B5 := Lib.hid (bn_then B4.out b5)
      clear b5
      go_wp2
      go_ret
      exact ⟨by first | rfl | (apply ret_bool; simp), B5.out⟩
end Go.Proofs.Ytfbjmaajdblbfaa.Spans
