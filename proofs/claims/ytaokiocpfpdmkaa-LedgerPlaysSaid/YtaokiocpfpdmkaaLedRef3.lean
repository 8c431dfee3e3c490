/- Chapter 19 (ledger): the document's ledger: Dup. -/
import Derived.Test.YtaokiocpfpdmkaaLedRef2
import Derived.Test.YtaokiocpfpdmkaaSpanHoldsRef
import Derived.Test.YtaokiocpfpdmkaaRegrown
import Derived.BigQuiet
set_option linter.unusedSimpArgs false
set_option linter.unusedVariables false
attribute [local go_sem ↓] Go.wp_at_zero Go.wp_at_succ
namespace Go.Proofs.Ytaokiocpfpdmkaa.Led
open Go.BigFrame Go.RowKit Go.OpenShut Go.Proofs.Ytaokiocpfpdmkaa.Aid Go.Proofs.Ytaokiocpfpdmkaa.Spans
/-- Where a part of a list of spans begins. -/
def Aim (a : Option Addr) (cap l : Nat) : Option Addr := if cap = l then a else a.map (·.add (l * 2))
theorem run_from (a : Option Addr) (len cap : Nat) (l : Int) (w : World) (h0 : 0 ≤ l) (h1 : l ≤ len) :
    (Instr.slice 27 (.slice a len cap) (some (.int .i64 l)) Option.none Option.none).run Try.prog w = .ok (.slice (Aim a cap l.toNat) (len - l.toNat) (cap - l.toNat)) w := by
  rw [run_slice_l (P := Try.prog) w 27 a len cap (by kernel_rfl) .i64 l h0 h1]
  have he : Try.prog.elem 27 = 26 := by kernel_rfl
  simp [he, sliced, Aim, go_sem]
theorem run_till (a : Option Addr) (len cap : Nat) (l : Int) (w : World) (h0 : 0 ≤ l) (h1 : l ≤ cap) :
    (Instr.slice 27 (.slice a len cap) Option.none (some (.int .i64 l)) Option.none).run Try.prog w = .ok (.slice a l.toNat cap) w := by
  rw [run_slice_h (P := Try.prog) w 27 a len cap (by kernel_rfl) .i64 l h0 h1]
  have he : Try.prog.elem 27 = 26 := by kernel_rfl
  simp [he, sliced, go_sem]
theorem reps_from {w : World} {a : Option Addr} {cap l : Nat} {xs : List Span} (h : Aid.Reps w a 2 encS xs) (hc : xs.length ≤ cap) : Aid.Reps w (Aim a cap l) 2 encS (xs.drop l) := by
  intro i x hx
  rw [List.getElem?_drop] at hx
  obtain ⟨ad, rfl, had, hcell⟩ := h (l + i) x hx
  have hlt : l + i < xs.length := (List.getElem?_eq_some_iff.1 hx).1
  refine ⟨ad.add (l * 2), by simp [Aim]; omega, by unfold Addr.add; split <;> exact had, fun j v hv => ?_⟩
  have := hcell j v hv
  rw [Go.Addr.add_add]
  rw [← this]; congr 2; omega
theorem reps_till {w : World} {a : Option Addr} {xs : List Span} (k : Nat) (h : Aid.Reps w a 2 encS xs) : Aid.Reps w a 2 encS (xs.take k) := by
  intro i x hx
  refine h i x ?_
  rw [List.getElem?_take] at hx
  split at hx
  · exact hx
  · cases hx
attribute [local go_sem high] run_from run_till
theorem rdup_zero (L : Led) (A : Option Addr) (n c : Nat) (s : Span) (w : World) (hl : len s = 0) : Calls Try.prog 66 #[byVal L (.slice A n c), .agg #[.int .i64 s.lo, .int .i64 s.hi]] w (Val w L (.slice A n c) (.bool false)) := by
  obtain ⟨o, cw, th, xs, sp⟩ := L
  have K := Lib.hid (len_ref s)
  rw [hl] at K
  have B0 := Lib.hid (boxes_new w o cw th (.slice A n c) sp s)
  clear hl
  unfold byVal
  go_enter Try.func66, Try.ntmps66
  go_wp2_with fail
  refine (K.out _).mono ?_
  rintro e w1 ⟨rfl, hb⟩
  have B1 := Lib.hid (B0.out.below hb)
  have x0 := B1.out.b0.cell 0
  have x1 := B1.out.b0.cell 1
  have x2 := B1.out.b0.cell 2
  have x3 := B1.out.b0.cell 3
  have x4 := B1.out.b0.cell 4
  have y0 := B1.out.b2.cell 0
  have y1 := B1.out.b2.cell 1
  have y2 := B1.out.b2.cell 2
  have y3 := B1.out.b2.cell 3
  have y4 := B1.out.b2.cell 4
  have fz := B1.out.b2.frozen
  clear hb
  go_wp2
  have F := put_five (o' := o) (cw' := cw) (th' := th) (v' := .slice A n c) (sp' := sp) B1.out.b2 B1.out.bel (by omega)
  revert F
  generalize (((((w1.setCell ⟨w.heap.size + 1 + 1, 0, Option.none⟩ (.bool o)).setCell ⟨w.heap.size + 1 + 1, 1, Option.none⟩ (.int .i64 cw)).setCell ⟨w.heap.size + 1 + 1, 2, Option.none⟩ (.int .i64 th)).setCell ⟨w.heap.size + 1 + 1, 3, Option.none⟩ (.slice A n c)).setCell ⟨w.heap.size + 1 + 1, 4, Option.none⟩ (.bool sp)) = W'
  rintro ⟨F1, F2⟩
  have z0 := F1.cell 0
  have z1 := F1.cell 1
  have z2 := F1.cell 2
  have z3 := F1.cell 3
  have z4 := F1.cell 4
  simp at z0 z1 z2 z3 z4
  exact bodyPost_ret (v := .tuple #[byVal ⟨o, cw, th, xs, sp⟩ (.slice A n c), .bool false]) (by simp [results, Try.results66, go_sem, byVal, z0, z1, z2, z3, z4]; done) rfl ⟨rfl, F2⟩
def RDup (w : World) (v : Value) (L : Led) (s : Span) (e : Ending) (w' : World) : Prop :=
  ∃ A n c, e = .returned (.tuple #[byVal ⟨L.opn, L.cwnd, L.thresh, goes s L.list, L.spilt⟩ (.slice A n c), .bool (any s L.list)]) ∧ RowOf 26 2 encS w' (.slice A n c) (goes s L.list) ∧ Below w.heap.size w w' ∧ ∀ k, (Value.slice A n c).ownBlock = some k → v.ownBlock = some k ∨ w.heap.size ≤ k
set_option maxRecDepth 100000 in
set_option maxHeartbeats 8000000 in
theorem rdup_calls (L : Led) (A : Option Addr) (n c : Nat) (s : Span) (w : World) (hr : RowOf 26 2 encS w (.slice A n c) L.list) (hl : len s ≠ 0) (hn : L.list.length ≤ 256) : Calls Try.prog 66 #[byVal L (.slice A n c), .agg #[.int .i64 s.lo, .int .i64 s.hi]] w (RDup w (.slice A n c) L s) := by
  obtain ⟨i0, hi, hz0, hz1, hz2⟩ := info_parts info26
  obtain ⟨o, cw, th, xs, sp⟩ := L
  simp only at hr hn ⊢
  obtain ⟨A', c', e, hcap⟩ := hr.slice
  injection e with e1 e2 e3
  subst e1 e2 e3
  obtain ⟨A', c', e, hA, hR⟩ := srcS hr
  injection e with e1 e2 e3
  subst e1 e3
  have HRW := Lib.hid hr
  have K := Lib.hid (len_ref s)
  have hl2 : (len s == 0) = false := by simpa using hl
  have hl1 : decide (len s = 0) = false := by simpa using hl
  generalize len s = ls at *
  have B0 := Lib.hid (boxes_new w o cw th (.slice A xs.length c) sp s)
  have R := Lib.hid hR
  have HA := Lib.hid hA
  have HN := Lib.hid hn
  have HC := Lib.hid hcap
  clear hl hn hr hR hA hcap
  unfold byVal
  go_enter Try.func66, Try.ntmps66
  go_wp2_with fail
  refine (K.out _).mono ?_
  rintro e w1 ⟨rfl, hb⟩
  have B1 := Lib.hid (B0.out.below hb)
  clear hb
  go_wp2
  go_loopw [6] (fun i wr => ∃ k : Nat, k ≤ xs.length ∧ i = .int .i64 k ∧ Hid (∀ y ∈ xs.take k, holds s y = false) ∧ Hid (Boxes w wr o cw th (.slice A xs.length c) sp s)) (fun i _ => xs.length - (intOf i).toNat)
  case atStart => exact ⟨0, by omega, rfl, Lib.hid (by simp), B1⟩
  case round =>
    obtain ⟨k, hk, rfl, hN, hB⟩ := hrel
    clear B1
    have x3 := hB.out.b0.cell 3
    have s0 := hB.out.b1.cell 0
    have s1 := hB.out.b1.cell 1
    by_cases hlt : k < xs.length
    · obtain ⟨x, hx⟩ : ∃ x, xs[k]? = some x := ⟨_, List.getElem?_eq_getElem hlt⟩
      obtain ⟨ad, rfl, had, hc⟩ := (R.out.below hB.out.bel) k x hx
      have c0 : wr.cell? (ad.add (k * 2)) = some (.int .i64 x.lo) := hc 0 _ rfl
      have c1 : wr.cell? ⟨(ad.add (k * 2)).block, (ad.add (k * 2)).off + 1, Option.none⟩ = some (.int .i64 x.hi) := (add_next ad (k * 2) 1 (by omega)) ▸ hc 1 _ rfl
      have q0 : (0 : Int) ≤ (k : Int) := by omega
      have q1 : (k : Int) < (xs.length : Int) := by omega
      have P := Lib.hid (fun d os => Calls.regrown_of (rholds_calls s x (Go.Sort.grow (redrawn wr d) os)))
      have htk : xs.take (k + 1) = xs.take k ++ [x] := by rw [List.take_succ_eq_append_getElem hlt, (List.getElem?_eq_some_iff.1 hx).2]
      have HX := Lib.hid hx
      have HT := Lib.hid htk
      clear hc hx htk
      obtain ⟨b, hb⟩ : ∃ b, holds s x = b := ⟨_, rfl⟩
      rw [hb] at P
      have HBB := Lib.hid hb
      clear hb
      have e0 : ∀ d os, (Go.Sort.grow (redrawn wr d) os).cell? ⟨w.heap.size + 1, 0, Option.none⟩ = some (.int .i64 s.lo) := fun d os => (hB.out.b1.regrown d os).cell 0
      have e1 : ∀ d os, (Go.Sort.grow (redrawn wr d) os).cell? ⟨w.heap.size + 1, 1, Option.none⟩ = some (.int .i64 s.hi) := fun d os => (hB.out.b1.regrown d os).cell 1
      have e2 : ∀ d os, (Go.Sort.grow (redrawn wr d) os).cell? ⟨w.heap.size, 3, Option.none⟩ = some (.slice (some ad) xs.length c) := fun d os => (hB.out.b0.regrown d os).cell 3
      have e3 : ∀ d os, (Go.Sort.grow (redrawn wr d) os).cell? (ad.add (k * 2)) = some (.int .i64 x.lo) := fun d os => cell_regrown c0 d os
      have e4 : ∀ d os, (Go.Sort.grow (redrawn wr d) os).cell? ⟨(ad.add (k * 2)).block, (ad.add (k * 2)).off + 1, Option.none⟩ = some (.int .i64 x.hi) := fun d os => cell_regrown c1 d os
      have q2 : (k : Int).toNat = k := by omega
      go_wp2
      refine wp_region_quiet_below (by kernel_rfl) (by kernel_rfl) ?_
      repeat (go_big_quiet_step (exact P.out _ _))
      refine wpQuiet_nil ?_
      rintro _ ⟨⟨nq, osq⟩, rfl⟩
      have B2 := Lib.hid (hB.out.below (below_regrown wr nq osq))
      revert B2
      generalize Go.Sort.grow (redrawn wr nq) osq = w4
      intro B2
      clear e0 e1 e2 e3 e4 c0 c1 s0 s1 x3 hB
      cases b with
      | false =>
        have k6 : (k : Int) ≤ 256 := by have := HN.out; omega
        go_wp2
        go_roundw
        case rel => exact ⟨k + 1, by omega, by go_num, Lib.hid (by
          rw [HT.out]
          intro y hy
          rcases List.mem_append.1 hy with hy | hy
          · exact hN.out y hy
          · rw [List.mem_singleton.1 hy]; exact HBB.out), B2⟩
        case measure => simp [intOf]; omega
      | true =>
        obtain ⟨hg, ha⟩ := goes_at s xs k x HX.out HBB.out hN.out
        have HG := Lib.hid hg
        have HY := Lib.hid ha
        have hlk : (xs.take k).length = k := by rw [List.length_take]; omega
        have hld : (xs.drop (k + 1)).length = xs.length - (k + 1) := List.length_drop
        have HK := Lib.hid hlk
        have HD := Lib.hid hld
        have k6 : (k : Int) ≤ 256 := by have := HN.out; omega
        have k7 : (k : Int) ≤ (c : Int) := by have := HC.out; omega
        have k8 : (k : Int) + 1 ≤ (xs.length : Int) := by omega
        have k9 : (0 : Int) ≤ (k : Int) + 1 := by omega
        have k5 : ((k : Int) + 1).toNat = k + 1 := by omega
        have kw : IntKind.i64.wrap ((k : Int) + 1) = (k : Int) + 1 := by simp only [IntKind.wrap_i64]; omega
        clear hg ha hlk hld
        have x3 := B2.out.b0.cell 3
        have x3a := (B2.out.below ((Below.refl _ w4).alloc (Nat.le_refl _) (.cells #[] 26))).b0.cell 3
        go_wp2_with (at_builtin; refine wpList_append_any (by rfl) _ _ 27 (by rfl) i0 _ 16 Try.underlying27 hi hz0 hz1 hz2 (by decide) (by decide) encS_len encS_one (.slice (some ⟨w4.heap.size, 0, Option.none⟩) 0 0) ([] : List Span) (by rfl) (row_newS w4) (some ad) k c (xs.take k) HK.out (by rfl) (fun h => by cases h) (reps_till k (R.out.below (B2.out.bel.alloc B2.out.bel.size _))) ?k2 ?k3 ?k4)
        case k2 => have := HN.out; simp; unfold maxLen; omega
        case k3 => have := HN.out; simp; omega
        case k4 =>
          intro v5 w5 hr5 ha5
          have hr5 : RowOf 26 2 encS w5 v5 (xs.take k) := hr5
          obtain ⟨A5, n5, c5, rfl⟩ := hr5.some_slice
          have O5 : Hid (∀ k, (Value.slice A5 n5 c5).ownBlock = some k → w4.heap.size ≤ k) := Lib.hid (fun k hk => by
            rcases ha5.own k hk with h1 | h1
            · have : w4.heap.size = k := by simpa [Value.ownBlock] using h1
              omega
            · simp at h1
              omega)
          have L5 : Hid (Below w4.heap.size w4 w5) := Lib.hid (below_app ((Below.refl _ w4).alloc (Nat.le_refl _) (.cells #[] 26)) ha5 (fun k hk => by
            have : w4.heap.size = k := by simpa [Value.ownBlock] using hk
            omega))
          have B5 := Lib.hid (B2.out.below L5.out)
          have R5 := Lib.hid hr5
          clear hr5 ha5 x3 x3a
          have x3 := B5.out.b0.cell 3
          go_wp2_with (at_builtin; refine wpList_append_any (by rfl) _ _ 27 (by rfl) i0 _ 16 Try.underlying27 hi hz0 hz1 hz2 (by decide) (by decide) encS_len encS_one (.slice A5 n5 c5) (xs.take k) (by rfl) R5.out (Aim (some ad) c (k + 1)) (xs.length - (k + 1)) (c - (k + 1)) (xs.drop (k + 1)) HD.out (by rfl) (fun h => by unfold Aim at h; split at h <;> simp at h) (reps_from (R.out.below B5.out.bel) HC.out) ?k5 ?k6 ?k7)
          case k5 => have := HN.out; have := HK.out; unfold maxLen; omega
          case k6 => have := HN.out; have := HK.out; omega
          case k7 =>
            intro v3 W3 hr3 ha3
            obtain ⟨A3, n3, c3, rfl⟩ := hr3.some_slice
            have O3 : Hid (∀ k, (Value.slice A3 n3 c3).ownBlock = some k → w4.heap.size ≤ k) := Lib.hid (fun k hk => by
              have := L5.out.size
              rcases ha3.own k hk with h1 | h1
              · exact O5.out k h1
              · omega)
            have L3 : Hid (Below w4.heap.size w4 W3) := Lib.hid (below_app L5.out ha3 O5.out)
            have B3 := Lib.hid (B2.out.below L3.out)
            have R3 := Lib.hid hr3
            have HS : Hid (w.heap.size + 1 + 1 < w4.heap.size) := Lib.hid B2.out.b2.lt
            clear hr3 ha3 x3
            have x0 := B3.out.b0.cell 0
            have x1 := B3.out.b0.cell 1
            have x2 := B3.out.b0.cell 2
            have x3 := B3.out.b0.cell 3
            have x4 := B3.out.b0.cell 4
            have y0 := B3.out.b2.cell 0
            have y1 := B3.out.b2.cell 1
            have y2 := B3.out.b2.cell 2
            have y3 := B3.out.b2.cell 3
            have y4 := B3.out.b2.cell 4
            have fz := B3.out.b2.frozen
            have fx := B3.out.b0.frozen
            go_wp2
            have F := put_five (o' := o) (cw' := cw) (th' := th) (v' := .slice A3 n3 c3) (sp' := sp) (B3.out.b2.far (p := ⟨w.heap.size, 3, Option.none⟩) (by simp; omega) (.slice A3 n3 c3)) (B3.out.bel.setCell (by simp) _) (by omega)
            have G : RowOf 26 2 encS (((((((W3.setCell ⟨w.heap.size, 3, Option.none⟩ (.slice A3 n3 c3)).setCell ⟨w.heap.size + 1 + 1, 0, Option.none⟩ (.bool o)).setCell ⟨w.heap.size + 1 + 1, 1, Option.none⟩ (.int .i64 cw)).setCell ⟨w.heap.size + 1 + 1, 2, Option.none⟩ (.int .i64 th)).setCell ⟨w.heap.size + 1 + 1, 3, Option.none⟩ (.slice A3 n3 c3)).setCell ⟨w.heap.size + 1 + 1, 4, Option.none⟩ (.bool sp))) (.slice A3 n3 c3) (xs.take k ++ xs.drop (k + 1)) := R3.out.same (fun k hk => by
              have h1 := O3.out k hk
              have h2 := HS.out
              rw [put_far (by omega)]
              exact Below.heap_setCell _ _ _ k (by simp; omega))
            rw [← HG.out] at G
            revert F G
            generalize ((((((W3.setCell ⟨w.heap.size, 3, Option.none⟩ (.slice A3 n3 c3)).setCell ⟨w.heap.size + 1 + 1, 0, Option.none⟩ (.bool o)).setCell ⟨w.heap.size + 1 + 1, 1, Option.none⟩ (.int .i64 cw)).setCell ⟨w.heap.size + 1 + 1, 2, Option.none⟩ (.int .i64 th)).setCell ⟨w.heap.size + 1 + 1, 3, Option.none⟩ (.slice A3 n3 c3)).setCell ⟨w.heap.size + 1 + 1, 4, Option.none⟩ (.bool sp)) = W'
            rintro ⟨F1, F2⟩ G
            have z0 := F1.cell 0
            have z1 := F1.cell 1
            have z2 := F1.cell 2
            have z3 := F1.cell 3
            have z4 := F1.cell 4
            simp at z0 z1 z2 z3 z4
            refine bodyPost_ret (v := .tuple #[byVal ⟨o, cw, th, goes s xs, sp⟩ (.slice A3 n3 c3), .bool true]) (by simp [results, Try.results66, go_sem, byVal, z0, z1, z2, z3, z4]; done) rfl ⟨A3, n3, c3, ?_, G, F2, fun k hk => .inr (by have h1 := O3.out k hk; have h2 := HS.out; omega)⟩
            simp only [HY.out]
    · obtain rfl : k = xs.length := by omega
      obtain ⟨hg, ha⟩ := goes_none s xs (by simpa using hN.out)
      have HG := Lib.hid hg
      have HY := Lib.hid ha
      have HK : Hid (RowOf 26 2 encS w (.slice A xs.length c) xs) := HRW
      clear hg ha
      have x0 := hB.out.b0.cell 0
      have x1 := hB.out.b0.cell 1
      have x2 := hB.out.b0.cell 2
      have x4 := hB.out.b0.cell 4
      have y0 := hB.out.b2.cell 0
      have y1 := hB.out.b2.cell 1
      have y2 := hB.out.b2.cell 2
      have y3 := hB.out.b2.cell 3
      have y4 := hB.out.b2.cell 4
      have fz := hB.out.b2.frozen
      have F := put_five (o' := o) (cw' := cw) (th' := th) (v' := .slice A xs.length c) (sp' := sp) hB.out.b2 hB.out.bel (by omega)
      have FH := Lib.hid F
      clear F
      go_wp2
      have F := FH.out
      have G : RowOf 26 2 encS ((((((wr.setCell ⟨w.heap.size + 1 + 1, 0, Option.none⟩ (.bool o)).setCell ⟨w.heap.size + 1 + 1, 1, Option.none⟩ (.int .i64 cw)).setCell ⟨w.heap.size + 1 + 1, 2, Option.none⟩ (.int .i64 th)).setCell ⟨w.heap.size + 1 + 1, 3, Option.none⟩ (.slice A xs.length c)).setCell ⟨w.heap.size + 1 + 1, 4, Option.none⟩ (.bool sp))) (.slice A xs.length c) xs := HK.out.below F.2
      revert F G
      clear FH
      generalize (((((wr.setCell ⟨w.heap.size + 1 + 1, 0, Option.none⟩ (.bool o)).setCell ⟨w.heap.size + 1 + 1, 1, Option.none⟩ (.int .i64 cw)).setCell ⟨w.heap.size + 1 + 1, 2, Option.none⟩ (.int .i64 th)).setCell ⟨w.heap.size + 1 + 1, 3, Option.none⟩ (.slice A xs.length c)).setCell ⟨w.heap.size + 1 + 1, 4, Option.none⟩ (.bool sp)) = W'
      rintro ⟨F1, F2⟩ G
      have z0 := F1.cell 0
      have z1 := F1.cell 1
      have z2 := F1.cell 2
      have z3 := F1.cell 3
      have z4 := F1.cell 4
      simp at z0 z1 z2 z3 z4
      refine bodyPost_ret (v := .tuple #[byVal ⟨o, cw, th, goes s xs, sp⟩ (.slice A xs.length c), .bool false]) (by simp [results, Try.results66, go_sem, byVal, z0, z1, z2, z3, z4]; done) rfl ⟨A, xs.length, c, ?_, (by rw [HG.out]; exact G), F2, fun k hk => .inl hk⟩
      simp only [HY.out]
end Go.Proofs.Ytaokiocpfpdmkaa.Led
