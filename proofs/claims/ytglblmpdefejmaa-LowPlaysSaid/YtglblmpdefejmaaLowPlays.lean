/- The walk of LowPlays. -/
import Derived.Test.YtglblmpdefejmaaLowFalls
import Derived.Test.YtglblmpdefejmaaLowRef
import Derived.Deep.Upon
attribute [local go_sem ↓] Go.wp_at_zero Go.wp_at_succ
namespace Go.Proofs.Ytglblmpdefejmaa.Low
open Go.RowKit Go.OpenShut Go.Proofs.Ytglblmpdefejmaa.Aid Go.Proofs.Ytglblmpdefejmaa.LowPlain
attribute [local go_sem] max_2 min_2 max2_i min2_i
theorem flat_one (m : List LMark) : ∀ u ∈ m.flatMap encM, u.oneCell' = true := by
  intro u hu
  obtain ⟨x, _, hx⟩ := List.mem_flatMap.1 hu
  simp only [encM, List.mem_cons, List.not_mem_nil, or_false] at hx
  rcases hx with rfl | rfl <;> rfl
theorem below_set {B : Nat} {a w : World} (h : Below B a w) {p : Addr} (hp : B ≤ p.block) (u : Value) : Below B a (w.setCell p u) :=
  ⟨h.os, h.tape, h.output, by simpa [World.setCell] using h.size, fun i hi => (Below.heap_setCell w p u i (by omega)).trans (h.block i hi)⟩
theorem grown_none_below {w w' : World} (h : w.grownBy w' none) : Below w.heap.size w w' := ⟨h.os, h.tape, h.output, h.size, fun i hi => h.block i hi (by simp)⟩
def Cloned (window last : Int) (n : Nat) (w : World) (e : Ending) (w' : World) : Prop :=
  ∃ (gc : Nat) (A : Option Addr) (c : Nat), e = .returned (.pointer (some ⟨gc, 0, none⟩)) ∧ Blk w' gc 41 #[.int .i64 window, .int .i64 last, .slice A n c] ∧ w.heap.size ≤ gc ∧ Below w.heap.size w w'
set_option maxRecDepth 100000 in
set_option maxHeartbeats 2000000 in
theorem clone_calls (g : Nat) (window last : Int) (A : Option Addr) (c : Nat) (l : List LMark) (w : World) (h : IsLow w g window last A c l) : Calls Try.prog 10 #[.pointer (some ⟨g, 0, none⟩)] w (Cloned window last l.length w) := by
  obtain ⟨i0, hi, hz0, hz1, hz2⟩ := info_parts markInfo
  have c0 : w.cell? ⟨g, 0, none⟩ = some (.int .i64 window) := h.blk.cell 0
  have c1 : w.cell? ⟨g, 1, none⟩ = some (.int .i64 last) := h.blk.cell 1
  have c2 : w.cell? ⟨g, 2, none⟩ = some (.slice A l.length c) := h.blk.cell 2
  have hlt := h.blk.lt
  have hsm := h.small
  have hne : g ≠ w.heap.size := by omega
  have hne2 : g ≠ w.heap.size + 1 := by omega
  have H := Lib.hid h
  clear h
  cases l with
  | nil =>
    cases A with
    | none =>
      go_enter Try.func10, Try.ntmps10
      go_wp2
      go_ret
      exact ⟨_, _, _, rfl, (Blk.new w 41 _).alloc _, Nat.le_refl _, ((Below.refl _ w).alloc (Nat.le_refl _) _).alloc (by simp) _⟩
    | some ad =>
      go_enter Try.func10, Try.ntmps10
      go_wp2
      go_ret
      exact ⟨_, _, _, rfl, (Blk.new w 41 _).alloc _, Nat.le_refl _, ((Below.refl _ w).alloc (Nat.le_refl _) _).alloc (by simp) _⟩
  | cons x t =>
    obtain ⟨ad, rfl, _⟩ := H.out.reps 0 x rfl
    obtain ⟨n, hn⟩ : ∃ n, n = (x :: t).length := ⟨_, rfl⟩
    have R := Lib.hid (H.out.reps)
    obtain ⟨m, hm⟩ : ∃ m, m = x :: t := ⟨_, rfl⟩
    have hpos : 0 < n := by rw [hn]; simp
    rw [← hm] at R hn c2 hsm ⊢
    rw [← hn] at c2 hsm
    rw [← hn]
    have HN := Lib.hid hn
    clear hn hm H
    have hf1 := flat_one m
    have hle : (m.flatMap encM).length = n * 2 := by rw [flat_len encM_len, HN.out]
    have HL := Lib.hid hle
    have HF := Lib.hid hf1
    clear hle hf1
    have RC := Lib.hid (((R.out.alloc (.cells #[.int .i64 window, .int .i64 last, .slice (some ad) n c] 41)).alloc (.cells #[] 43)).cells encM_len (by omega))
    go_enter Try.func10, Try.ntmps10
    go_wp2_with (at_builtin; refine wpList_append_grows _ rfl (.tmp 9) (.tmp 13) 39 rfl 43 i0 (.agg #[.int .i64 0, .int .i64 0]) 2 16 Try.underlying39 hi hz0 hz1 hz2 rfl (by decide) (some ⟨w.heap.size + 1, 0, none⟩) 0 0 [] (by rfl) (fun h => by cases h) (by rfl) (fun _ _ j u h => absurd h (by simp)) ad n c (m.flatMap encM) (by rfl) HL.out (RC.out ad rfl) HF.out (by omega) (by unfold maxLen; omega) (by omega) ?_; intro v2 w2 hown2 hg2; obtain ⟨gx, cap, rfl, hgx, hgl⟩ := hown2.form (by omega); have N2 := Lib.hid (((Blk.new w 41 #[.int .i64 window, .int .i64 last, .slice (some ad) n c]).alloc (.cells #[] 43)).grown hg2 (by simp)); have q2 := N2.out.cell 2; have f2 := N2.out.frozen 2; have HG := Lib.hid hg2; clear hown2 hg2)
    go_ret
    have hb : Below w.heap.size w w2 := below_then (((Below.refl _ w).alloc (Nat.le_refl _) _).alloc (by simp) _) (by simp; omega) (grown_none_below HG.out)
    exact ⟨w.heap.size, some ⟨gx, 0, none⟩, cap, rfl, (N2.out.set_ 2 _).eq (by simp), Nat.le_refl _, below_set hb (p := ⟨w.heap.size, 2, none⟩) (Nat.le_refl _) _⟩
/-- What holds between the rounds. -/
structure Inv (w W : World) (g : Nat) (window last : Int) (had : List LMark) (k : Nat) : Prop where
  low : ∃ A c, IsLow W g window last A c (kept window last had)
  wf : Wf had
  times : Times had
  le : ∀ x ∈ had, x.at_ ≤ last
  l0 : 0 ≤ last
  l1 : last ≤ 4611686018427387904
  len : had.length ≤ k
  bel : Below w.heap.size w W
  wg : w.heap.size ≤ g
theorem kept_len (window last : Int) (had : List LMark) : (kept window last had).length ≤ had.length := by
  unfold kept
  exact Nat.le_trans (List.Sublist.length_le List.filter_sublist) (List.Sublist.length_le (surv_sub had))
theorem kept_wf {window last : Int} {had : List LMark} (h : Wf had) : Wf (kept window last had) := fun x hx => h x (surv_mem (List.mem_filter.1 hx).1)
theorem times_snoc {had : List LMark} {y : LMark} {last : Int} (ht : Times had) (hl : ∀ x ∈ had, x.at_ ≤ last) (h : last ≤ y.at_) : Times (had ++ [y]) := by
  unfold Times at *
  rw [List.pairwise_append]
  refine ⟨ht, by simp, ?_⟩
  intro a ha b hb
  have hb' : b = y := by simpa using hb
  subst hb'
  have := hl a ha
  omega
theorem kept_added {window last : Int} {had : List LMark} {y : LMark} (ht : Times had) (hl : ∀ x ∈ had, x.at_ ≤ last) (h : last ≤ y.at_) : kept window y.at_ (had ++ [y]) = added window y.at_ y.v (kept window last had) :=
  kept_snoc window last had y h (times_snoc ht hl h)
theorem min_best (window last now : Int) (had : List LMark) (ht : Times had) (hw : Wf had) (hl : last ≤ now) (h1 : now ≤ 4611686018427387904) :
    (best window now had = -1 ∧ minOf window last now (kept window last had) = .tuple #[.int .i64 0, .bool false]) ∨ (∃ u, 0 ≤ u ∧ best window now had = u ∧ minOf window last now (kept window last had) = .tuple #[.int .i64 u, .bool true]) := by
  rw [best_kept window last now had ht (fun x hx => (hw x hx).2.2.1) hl, ← drop_gone, minOf, if_neg (by omega)]
  cases hd : (kept window last had).drop (goneN window now (kept window last had)) with
  | nil => exact .inl ⟨rfl, rfl⟩
  | cons x t =>
    refine .inr ⟨x.v, ?_, rfl, rfl⟩
    have hx : x ∈ kept window last had := List.mem_of_mem_drop (by rw [hd]; simp)
    exact (kept_wf hw x hx).2.2.1
theorem own_keep {base n sz : Nat} {e : TypeId} {w w' : World} {v : Value} {xs : List Value} (h : w.ownsRow base e sz v n xs) (hb : Below w.heap.size w w') : w'.ownsRow base e sz v n xs :=
  h.kept (grown_below hb none) (by cases v.ownBlock <;> simp)
theorem inv_drewN {w W : World} {g : Nat} {window last : Int} {had : List LMark} {k : Nat} (h : Inv w W g window last had k) (n : Nat) : Inv w (W.drewN n) g window last had k :=
  ⟨by obtain ⟨A, c, h⟩ := h.low; exact ⟨A, c, h.drewN n⟩, h.wf, h.times, h.le, h.l0, h.l1, h.len, below_drewN h.bel n, h.wg⟩
theorem hadInfo : (Try.prog.info? 30).map (fun i => (i.zero, i.size, i.bytes)) = some (some (.agg #[.int .i64 0, .int .i64 0]), 2, 16) := by kernel_rfl
theorem grown_row {B : Nat} {w w1 w2 : World} {v : Value} {base e sz n : Nat} {xs : List Value} (h : Below B w w1) (hB : B ≤ w1.heap.size) (hown : w1.ownsRow base e sz v n xs) (hb : B ≤ base) (hg : w1.grownBy w2 v.ownBlock) : Below B w w2 :=
  h.grown hg hB (fun k hk => by have := (hown.lt k hk).1; omega)
set_option maxRecDepth 100000 in
set_option maxHeartbeats 4000000 in
theorem plays_walk (window : Int) (A : Option Addr) (c : Nat) (l : List LMark) (ahead : Int) (w : World) (hn : l.length ≤ maxLen)
    (hw : ∀ o ∈ l, (-9223372036854775808 ≤ o.at_ ∧ o.at_ ≤ 9223372036854775807) ∧ (-9223372036854775808 ≤ o.v ∧ o.v ≤ 9223372036854775807)) (hr : Reps w A 2 encM l) (ha : -9223372036854775808 ≤ ahead ∧ ahead ≤ 9223372036854775807) :
    Calls Try.prog 4 #[.int .i64 window, .slice A l.length c, .int .i64 ahead] w (Yes w) := by
  unfold maxLen at hn
  obtain ⟨ha0, ha1⟩ := ha
  have R := Lib.hid hr
  have HW := Lib.hid hw
  clear hr hw
  by_cases h0 : window < 1 ∨ window > 4611686018427387904
  · have hc : window < 1 ∨ (¬ window < 1 ∧ window > 4611686018427387904) := by omega
    rcases hc with h1 | ⟨h1, h2⟩
    all_goals
      go_enter Try.func4, Try.ntmps4
      go_wp2_with fail
      refine (known_calls _).mono ?_
      rintro e w1 ⟨rfl, b1⟩
      go_wp2_with fail
      refine (new_bad _ _ (by omega)).mono ?_
      rintro e w2 ⟨rfl, rfl⟩
      go_wp2_with (first | (go_at_call 6; refine (known_calls _).mono ?_; rintro e w2 ⟨rfl, b2⟩))
      go_ret
      exact ⟨rfl, below_then b1 b1.size b2⟩
  · have h1 : ¬ window < 1 := by omega
    have h2 : ¬ window > 4611686018427387904 := by omega
    clear h0
    go_enter Try.func4, Try.ntmps4
    go_wp2_with fail
    refine (known_calls _).mono ?_
    rintro e w1 ⟨rfl, b1⟩
    go_wp2_with fail
    refine (new_ok _ _ (by omega) (by omega)).mono ?_
    rintro e w2 ⟨rfl, e2, b2, s2⟩
    have b3 := below_then b1 b1.size b2
    have hg := b1.size
    have K0 : Hid (Inv w w2 w1.heap.size window 0 [] 0) := Lib.hid ⟨⟨_, _, e2⟩, by intro x hx; simp at hx, by simp [Times], by intro x hx; simp at hx, by omega, by omega, by simp, b3, hg⟩
    have O0 : Hid (w2.ownsRow w.heap.size 30 2 (.slice none 0 0) 0 ([].flatMap encM)) := Lib.hid (World.ownsRow_nil _ _ _ _)
    generalize w1.heap.size = g at *
    clear e2 b1 b2 w1
    go_wp2_with fail
    go_loopw [9, 10, 11] (fun vh la i wr => ∃ (k : Nat) (had : List LMark) (last : Int) (Ah : Option Addr) (ch : Nat), k ≤ l.length ∧ k ≤ 100 ∧ i = .int .i64 k ∧ la = .int .i64 last ∧ vh = .slice Ah had.length ch ∧ Hid (wr.ownsRow w.heap.size 30 2 (.slice Ah had.length ch) had.length (had.flatMap encM)) ∧ Hid (Inv w wr g window last had k)) (fun _ _ i _ => 100 - (intOf i).toNat)
    case atStart => exact ⟨0, [], 0, none, 0, by omega, by omega, rfl, rfl, rfl, O0, K0⟩
    case round =>
      obtain ⟨k, had, last, Ah, ch, hk, hk2, rfl, rfl, rfl, hO, hK⟩ := hrel
      by_cases hlt : k < l.length
      · by_cases hlt2 : k < 100
        · obtain ⟨x, hx⟩ : ∃ x, l[k]? = some x := ⟨_, List.getElem?_eq_getElem hlt⟩
          obtain ⟨ad, hA, had', k0, k1⟩ := cellAt (R.out.below hK.out.bel) hx
          subst hA
          obtain ⟨⟨x0, x1⟩, ⟨x2, x3⟩⟩ := HW.out x (List.mem_of_getElem? hx)
          have HX := Lib.hid hx
          clear hx K0 O0
          have hl0 := hK.out.l0
          have hl1 := hK.out.l1
          go_upto_region 13 with fail
          go_cut [12] (fun r wx => wx = wr ∧ ∃ b : Bool, r = .bool b ∧ Hid (b = true → last ≤ x.at_ ∧ x.at_ ≤ 4611686018427387904 ∧ 0 ≤ x.v ∧ x.v ≤ 4611686018427387904) ∧ Hid (b = false → x.at_ < last ∨ x.at_ > 4611686018427387904 ∨ x.v < 0 ∨ x.v > 4611686018427387904))
          case first =>
            have hc : (x.at_ < last) ∨ (last ≤ x.at_ ∧ 4611686018427387904 < x.at_) ∨ (last ≤ x.at_ ∧ x.at_ ≤ 4611686018427387904 ∧ x.v < 0) ∨ (last ≤ x.at_ ∧ x.at_ ≤ 4611686018427387904 ∧ 0 ≤ x.v) := by omega
            rcases hc with c1 | ⟨c1, c2⟩ | ⟨c1, c2, c3⟩ | ⟨c1, c2, c3⟩
            all_goals
              go_wp2_with fail
              go_meet
              refine ⟨rfl, _, rfl, Lib.hid fun h => ?_, Lib.hid fun h => ?_⟩
              · first | (exfalso; simp at h; done) | (simp at h; omega)
              · first | omega | (simp at h; omega)
          case rest => as_aux_lemma =>
            obtain ⟨rfl, b, rfl, hgood, hbad⟩ := hcut
            have hkl := kept_len window last had
            have hle := hK.out.len
            have hbel := hK.out.bel
            obtain ⟨AL, cL, hL⟩ := hK.out.low
            have HL := Lib.hid hL
            clear hL k0 k1
            go_wp2_with fail
            refine (clone_calls g window last AL cL _ _ HL.out).mono ?_
            rintro e w3 ⟨gc, Ac, cc, rfl, hgc, hgc2, b3⟩
            have L3 := Lib.hid (HL.out.below b3)
            have O3 := Lib.hid (own_keep hO.out b3)
            have GC := Lib.hid hgc
            have B3 := Lib.hid (below_then hbel hbel.size b3)
            have hgr : g < gc := by have := HL.out.blk.lt; omega
            obtain ⟨N, hN⟩ : ∃ N, N = (kept window last had).length := ⟨_, rfl⟩
            rw [← hN] at hkl GC
            have HN := Lib.hid hN
            have WGC := Lib.hid hgc2
            clear hN hgc b3 HL hbel hgc2
            go_wp2_with fail
            refine (len_calls gc window last Ac N cc _ GC.out (by omega)).mono ?_
            rintro e w4 ⟨rfl, rfl⟩
            obtain ⟨ad', hA', _, k0, k1⟩ := cellAt (R.out.below B3.out) HX.out
            cases hA'
            go_upto_region 16 with fail
            go_cut [15] (fun v wx => Hid (Blk wx gc 41 #[.int .i64 window, .int .i64 last, .slice Ac N cc]) ∧ Hid (wx.ownsRow w.heap.size 30 2 (.slice Ah had.length ch) had.length (had.flatMap encM)) ∧ Hid (Below w.heap.size w wx) ∧ ((b = true ∧ v = .int .i64 0 ∧ ∃ AM cM, Hid (IsLow wx g window x.at_ AM cM (kept window x.at_ (had ++ [x])))) ∨ (b = false ∧ v = .int .i64 3 ∧ ∃ AM cM, Hid (IsLow wx g window last AM cM (kept window last had)))))
            case first =>
              cases b with
              | true =>
                obtain ⟨g1, g2, g3, g4⟩ := hgood.out rfl
                have C := Lib.hid (fun n => add_good g window last x.at_ x.v AL cL (kept window last had) _ (L3.out.drewN n) (kept_wf hK.out.wf) kept_rises (by omega) (by omega) hl0 (by omega) (by omega) (by omega) (by omega) (by have := HN.out; omega))
                go_region_held3 (fun w' => w'.cell? (ad.add (k * 2)) = some (.int .i64 x.at_) ∧ w'.cell? ⟨(ad.add (k * 2)).block, (ad.add (k * 2)).off + 1, none⟩ = some (.int .i64 x.v)) (go_keep) (first
                  | (go_at_call 8
                     refine (C.out 1).mono ?_
                     rintro e w5 ⟨rfl, hl5, g5⟩
                     have B5 := below_grown (below_drewN B3.out 1) B3.out.size g5 hK.out.wg
                     obtain ⟨ad', hA', _, q0, q1⟩ := cellAt (R.out.below B5) HX.out
                     cases hA'))
                rw [← kept_added hK.out.times hK.out.le g1] at hl5
                have oe := own_blk_ne O3.out L3.out.blk (by decide)
                have O5 := Lib.hid (World.ownsRow.kept (show (w3.drewN 1).ownsRow w.heap.size 30 2 (.slice Ah had.length ch) had.length (had.flatMap encM) from O3.out) g5 (.inr oe))
                have GC5 := Lib.hid ((GC.out.drewN 1).grown g5 (by simp; omega))
                have HB5 := Lib.hid B5
                obtain ⟨AM, cM, hM⟩ := hl5
                have L5 := Lib.hid hM
                clear hM g5 B5 C oe
                go_wp2_with fail
                go_meet
                exact ⟨GC5, O5, HB5, .inl ⟨trivial, rfl, _, _, L5⟩⟩
              | false =>
                have C := Lib.hid (fun n => add_bad g window last x.at_ x.v _ _ ((L3.out.blk).drewN n) (hbad.out rfl))
                go_region_held3 (fun w' => w'.cell? (ad.add (k * 2)) = some (.int .i64 x.at_) ∧ w'.cell? ⟨(ad.add (k * 2)).block, (ad.add (k * 2)).off + 1, none⟩ = some (.int .i64 x.v)) (go_keep) (first
                  | (go_at_call 8
                     refine (C.out 1).mono ?_
                     rintro e w5 ⟨rfl, rfl⟩))
                clear C
                go_wp2_with fail
                go_meet
                exact ⟨Lib.hid (GC.out.drewN 1), Lib.hid O3.out, Lib.hid (below_drewN B3.out 1), .inr ⟨trivial, rfl, _, _, Lib.hid (L3.out.drewN 1)⟩⟩
            case rest => as_aux_lemma =>
              obtain ⟨GC5, O5, HB5, hc5⟩ := hcut
              clear L3 O3 GC B3 k0 k1
              go_upto_region 17 with fail
              go_cut [116] (fun v wx => wx = wc ∧ v = .bool false)
              case first =>
                rcases hc5 with ⟨rfl, rfl, _⟩ | ⟨rfl, rfl, _⟩
                · go_wp2_with fail
                  go_meet
                  exact ⟨rfl, rfl⟩
                · go_wp2_with fail
                  go_meet
                  exact ⟨rfl, rfl⟩
              case rest => as_aux_lemma =>
                obtain ⟨rfl, rfl⟩ := hcut
                go_upto_if 117 with fail
                go_cut [9, 10] (fun vh vl wx => ∃ (h2 : List LMark) (la2 : Int) (A2 : Option Addr) (c2 : Nat), vh = .slice A2 h2.length c2 ∧ vl = .int .i64 la2 ∧ Hid (wx.ownsRow w.heap.size 30 2 (.slice A2 h2.length c2) h2.length (h2.flatMap encM)) ∧ Hid (Inv w wx g window la2 h2 (k + 1)) ∧ Hid (Blk wx gc 41 #[.int .i64 window, .int .i64 last, .slice Ac N cc]))
                case first =>
                  rcases hc5 with ⟨rfl, rfl, AM, cM, hM⟩ | ⟨rfl, rfl, AM, cM, hM⟩
                  · obtain ⟨g1, g2, g3, g4⟩ := hgood.out rfl
                    obtain ⟨i0, hi, hz0, hz1, hz2⟩ := info_parts hadInfo
                    obtain ⟨ad', hA', _, q0, q1⟩ := cellAt (R.out.below HB5.out) HX.out
                    cases hA'
                    go_wp2_with (at_builtin; refine wpList_append_own _ rfl (.tmp 118) (.tmp 123) 22 rfl w.heap.size 30 i0 (.agg #[.int .i64 0, .int .i64 0]) 2 16 Try.underlying22 hi hz0 hz1 hz2 rfl (by decide) (.slice Ah had.length ch) had.length (had.flatMap encM) rfl (O5.out.alloc _) ⟨wc.heap.size, 0, none⟩ 1 1 [.int .i64 x.at_, .int .i64 x.v] rfl rfl (blk_cells _ _ _ _ (Blk.new wc 30 #[.int .i64 x.at_, .int .i64 x.v])) (by simp [Value.oneCell']) (by unfold maxLen; omega) (by omega) (by have := HB5.out.size; simp; omega) ?_; intro v6 w6 hown6 hg6 _; obtain ⟨gx, cap, rfl, hgx, hgl⟩ := hown6.form (by omega); have B6 := grown_row (HB5.out.alloc HB5.out.size _) (by have := HB5.out.size; simp; omega) (O5.out.alloc _) (Nat.le_refl _) hg6; have HO6 := Lib.hid hown6; have HB6 := Lib.hid B6; have HG6 := Lib.hid hg6; obtain ⟨ad', hA', _, r0, r1⟩ := cellAt (R.out.below B6) HX.out; cases hA'; clear hown6 B6 hg6)
                    have I6 : Hid (Inv w w6 g window x.at_ (had ++ [x]) (k + 1)) := Lib.hid ⟨⟨AM, cM, (show IsLow (wc.alloc (.cells #[.int .i64 x.at_, .int .i64 x.v] 30)) g window x.at_ AM cM _ from hM.out.below ((Below.refl _ _).alloc (Nat.le_refl _) _)).grown HG6.out (Ne.symm (own_blk_ne O5.out hM.out.blk (by decide))) (fun a e => by obtain ⟨cs, hcs⟩ := hM.out.ty a e; exact Ne.symm (own_blk_ne O5.out hcs (by decide)))⟩, (fun y hy => by rcases List.mem_append.1 hy with hy | hy; exact hK.out.wf y hy; have : y = x := (by simpa using hy); subst this; exact ⟨by omega, g2, g3, g4⟩), times_snoc hK.out.times hK.out.le g1, (fun y hy => by rcases List.mem_append.1 hy with hy | hy; have := hK.out.le y hy; omega; have : y = x := (by simpa using hy); subst this; exact Int.le_refl _), by omega, g2, by simp; omega, HB6.out, hK.out.wg⟩
                    have GC6 := Lib.hid ((GC5.out.alloc (.cells #[.int .i64 x.at_, .int .i64 x.v] 30)).grown HG6.out (Ne.symm (own_blk_ne O5.out GC5.out (by decide))))
                    have ho6 := HO6.out
                    rw [show had.flatMap encM ++ [.int .i64 x.at_, .int .i64 x.v] = (had ++ [x]).flatMap encM from by simp [encM]] at ho6
                    have O6 := Lib.hid ho6
                    clear ho6
                    go_meet
                    exact ⟨had ++ [x], x.at_, some ⟨gx, 0, none⟩, cap, by simp, rfl, Lib.hid (by simpa using O6.out), I6, GC6⟩
                  · go_wp2_with fail
                    go_meet
                    exact ⟨had, last, Ah, ch, rfl, rfl, O5, Lib.hid ⟨⟨AM, cM, hM.out⟩, hK.out.wf, hK.out.times, hK.out.le, hl0, hl1, by omega, HB5.out, hK.out.wg⟩, GC5⟩
                case rest => as_aux_lemma =>
                  obtain ⟨h2, la2, A2, c2, rfl, rfl, O6, I6, GC6⟩ := hcut
                  clear hc5 O5 HB5 GC5 hgood hbad
                  go_upto_region 23 with fail
                  have jl0 := I6.out.l0
                  have jl1 := I6.out.l1
                  go_cut [138] (fun v wx => wx = wc ∧ ∃ bb : Bool, v = .bool bb ∧ Hid (bb = true → 0 ≤ ahead ∧ ahead ≤ 4611686018427387904 - la2))
                  case first =>
                    by_cases a1 : 0 ≤ ahead
                    · by_cases a2 : ahead ≤ 4611686018427387904 - la2
                      · go_wp2_with fail
                        go_meet
                        exact ⟨rfl, _, rfl, Lib.hid (fun _ => ⟨a1, a2⟩)⟩
                      · go_wp2_with fail
                        go_meet
                        exact ⟨rfl, _, rfl, Lib.hid (fun h => by first | (simp at h; done) | (simp at h; omega))⟩
                    · go_wp2_with fail
                      go_meet
                      exact ⟨rfl, _, rfl, Lib.hid (fun h => by first | (simp at h; done) | (simp at h; omega))⟩
                  case rest => as_aux_lemma =>
                    obtain ⟨rfl, bb, rfl, hbb⟩ := hcut
                    go_upto_if 138 with fail
                    go_cut [16] (fun v wx => wx = wc ∧ ∃ now : Int, v = .int .i64 now ∧ la2 ≤ now ∧ now ≤ 4611686018427387904)
                    case first =>
                      cases bb with
                      | true =>
                        obtain ⟨a1, a2⟩ := hbb.out rfl
                        go_wp2_with fail
                        go_meet
                        exact ⟨rfl, _, rfl, by omega, by omega⟩
                      | false =>
                        go_wp2_with fail
                        go_meet
                        exact ⟨rfl, _, rfl, by omega, by omega⟩
                    case rest => as_aux_lemma =>
                      obtain ⟨rfl, now, rfl, hw1, hw2⟩ := hcut
                      obtain ⟨A6, c6, hL6⟩ := I6.out.low
                      have HL6 := Lib.hid hL6
                      clear hL6
                      have hlen6 := I6.out.len
                      have hk6 := kept_len window la2 h2
                      have rd := own_reads O6.out encM_len (by omega)
                      obtain ⟨AR, cR, eR, _, hR, _⟩ := rd
                      cases eR
                      have CM := Lib.hid (fun (n : Nat) => (ref_min window now A2 c2 h2 (wc.drewN n) (hR.drewN n) I6.out.wf (by omega) (by omega) hw2))
                      have CL := Lib.hid (fun (n : Nat) => (ref_len window la2 A2 c2 h2 (wc.drewN n) (hR.drewN n) I6.out.wf (by omega) jl0 jl1))
                      clear hR
                      obtain ⟨q, hq⟩ : ∃ q, q = (kept window la2 h2).length := ⟨_, rfl⟩
                      have hqc := count_kept window la2 h2
                      rw [← hq] at hqc hk6
                      rw [← hqc] at CL
                      have HQ := Lib.hid hq
                      clear hq hqc
                      rcases min_best window la2 now h2 I6.out.times I6.out.wf hw1 hw2 with ⟨e1, e2⟩ | ⟨u, hu, e1, e2⟩
                      all_goals as_aux_lemma =>
                        have E2 := Lib.hid e2
                        have E1 := Lib.hid e1
                        clear e1 e2
                        go_wp2_with fail
                        refine (min_calls g window la2 now A6 c6 _ _ HL6.out (kept_wf I6.out.wf) (by omega) (by omega) jl0).mono ?_
                        rintro e w7 ⟨rfl, n7, rfl⟩
                        rw [E2.out]
                        go_wp2_with fail
                        refine (CM.out n7).mono ?_
                        rintro e w8 ⟨rfl, rfl⟩
                        rw [E1.out]
                        go_wp2_with fail
                        refine (last_calls g window la2 _ _ (HL6.out.drewN _).blk).mono ?_
                        rintro e w8 ⟨rfl, rfl⟩
                        go_wp2_with fail
                        refine (len_calls g window la2 A6 _ c6 _ (HL6.out.drewN _).blk (by have := HQ.out; omega)).mono ?_
                        rintro e w8 ⟨rfl, rfl⟩
                        rw [← HQ.out]
                        go_wp2_with fail
                        refine (CL.out _).mono ?_
                        rintro e w8 ⟨rfl, n8, rfl⟩
                        go_wp2_with fail
                        refine (len_calls gc window last Ac N cc _ (GC6.out.drewN _) (by omega)).mono ?_
                        rintro e w8 ⟨rfl, rfl⟩
                        go_wp2
                        go_roundw
                        case rel => exact ⟨k + 1, h2, la2, A2, c2, by omega, by omega, by go_num, rfl, rfl, O6, Lib.hid (inv_drewN I6.out _)⟩
                        case measure => simp [intOf]; omega
        · go_wp2_with (first | (go_at_call 6; refine (known_calls _).mono ?_; rintro e w2 ⟨rfl, b2⟩))
          go_ret
          exact ⟨rfl, below_then hK.out.bel hK.out.bel.size b2⟩
      · go_wp2_with (first | (go_at_call 6; refine (known_calls _).mono ?_; rintro e w2 ⟨rfl, b2⟩))
        go_ret
        exact ⟨rfl, below_then hK.out.bel hK.out.bel.size b2⟩
end Go.Proofs.Ytglblmpdefejmaa.Low
