/- Chapter 25 (duct): the document's Double (53). -/
import Derived.Test.YtiphkgkhfomcaaaDuctRefC
set_option linter.unusedSimpArgs false
set_option linter.unusedVariables false
attribute [local go_sem ↓] Go.wp_at_zero Go.wp_at_succ
namespace Go.Proofs.Ytiphkgkhfomcaaa.Duct
open Go.BigFrame Go.RowKit Go.OpenShut Go.Proofs.Ytiphkgkhfomcaaa.Aid Go.Proofs.Ytiphkgkhfomcaaa.DMap Go.Proofs.Ytiphkgkhfomcaaa.Byt
theorem row_nil {w : World} {v : Value} {cs : List Cp} (h : RowOf 124 5 encP w v cs) {A : Option Addr} {n c : Nat} (e1 : v = .slice A n c) : A = Option.none → c = 0 := fun hA => by
  obtain ⟨h0, hx⟩ | ⟨b, cap, cur, h0, _⟩ := h
  · rw [e1] at h0
    injection h0
  · rw [e1, hA] at h0
    injection h0 with h4
    cases h4
theorem rdouble_bad (la id now : Int) (v : Value) (cs : List Cp) (w : World) (h : RowOf 124 5 encP w v cs) (hb : now < la ∨ 4611686018427387904 < now) : Calls Try.prog 53 #[refD la v, .int .i64 id, .int .i64 now] w (Gives w (.tuple #[refD la v, .int .i64 0, .int .i64 3])) := by
  obtain ⟨A1, c1, rfl, hc⟩ := h.slice
  have O := Lib.hid (show Below w.heap.size w ((w.alloc (.cells #[.int .i64 la, .slice A1 cs.length c1] 76)).alloc (.cells #[.int .i64 la, .slice A1 cs.length c1] 76)) from ((Below.refl _ w).alloc (Nat.le_refl _) _).alloc (by simp) _)
  clear h hc
  generalize cs.length = n at *
  rcases (by omega : now < la ∨ (¬ now < la ∧ 4611686018427387904 < now)) with h1 | ⟨h1, h2⟩
  · clear hb
    go_enter Try.func53, Try.ntmps53
    go_wp2
    exact bodyPost_ret (v := .tuple #[refD la (.slice A1 n c1), .int .i64 0, .int .i64 3]) (by simp [results, Try.results53, go_sem]; done) rfl ⟨rfl, O.out⟩
  · clear hb
    go_enter Try.func53, Try.ntmps53
    go_wp2
    exact bodyPost_ret (v := .tuple #[refD la (.slice A1 n c1), .int .i64 0, .int .i64 3]) (by simp [results, Try.results53, go_sem]; done) rfl ⟨rfl, O.out⟩
set_option maxRecDepth 100000 in
set_option maxHeartbeats 4000000 in
theorem rdouble_none (la id now : Int) (v : Value) (cs : List Cp) (w : World) (h : RowOf 124 5 encP w v cs) (hl : cs.length ≤ 1000000) (h1 : la ≤ now) (h2 : now ≤ 4611686018427387904) (h3 : isP cs id = false) : Calls Try.prog 53 #[refD la v, .int .i64 id, .int .i64 now] w (Gives w (.tuple #[refD la v, .int .i64 0, .int .i64 10])) := by
  obtain ⟨A1, c1, e1, hc, hR⟩ := h.reps encP_len
  subst e1
  obtain ⟨d1, d2, d3⟩ := doors w la (.slice A1 cs.length c1)
  have hs2 : ((w.alloc (.cells #[.int .i64 la, .slice A1 cs.length c1] 76)).alloc (.cells #[.int .i64 0, nilS] 76)).heap.size = w.heap.size + 1 + 1 := by simp
  have K := Lib.hid (ris_calls la id A1 c1 cs _ (hR.below d1) hl)
  rw [h3] at K
  have D := Lib.hid (And.intro d1 (And.intro d2 (And.intro d3 hs2)))
  have q1 : ¬ now < la := by omega
  have q2 : ¬ 4611686018427387904 < now := by omega
  clear h hc hR hl h1 h2 h3 d1 d2 d3 hs2
  generalize cs.length = n at *
  go_enter Try.func53, Try.ntmps53
  go_wp2_with fail
  refine K.out.mono ?_
  rintro e w3 ⟨rfl, b3⟩
  have hsz := D.out.2.2.2
  have X3 := D.out.2.1.below b3 (by rw [hsz]; omega)
  have Y3 := D.out.2.2.1.below b3 (by rw [hsz]; omega)
  have B3 := below_then D.out.1 (by rw [hsz]; omega) b3
  obtain ⟨o1, o2, o4⟩ := out_door (la := la) (v := .slice A1 n c1) (by omega) B3 Y3
  have O := Lib.hid o2
  have x0 := X3.cell 0
  have x1 := X3.cell 1
  have y0 := Y3.cell 0
  have y1 := Y3.cell 1
  have yf := Y3.frozen
  have t0 := o1.cell 0
  have t1 := o1.cell 1
  simp at x0 x1 y0 y1
  clear b3 hsz Y3 B3 o1 o2 o4 D K X3
  go_wp2
  exact bodyPost_ret (v := .tuple #[refD la (.slice A1 n c1), .int .i64 0, .int .i64 10]) (by simp at t0 t1; simp [results, Try.results53, go_sem, t0, t1]; done) rfl ⟨rfl, O.out⟩
/-- The boxes at the door, and the document's row as it came. -/
structure Door (w W : World) (H : Nat) (la : Int) (v : Value) (cs : List Cp) : Prop where
  x : Blk W H 76 #[.int .i64 la, v]
  y : Blk W (H + 1) 76 #[.int .i64 0, nilS]
  bel : Below w.heap.size w W
  row : RowOf 124 5 encP W v cs
theorem Door.below {w W W' : World} {H : Nat} {la : Int} {v : Value} {cs : List Cp} (h : Door w W H la v cs) (hb : Below W.heap.size W W') : Door w W' H la v cs := ⟨h.x.below hb h.x.lt, h.y.below hb h.y.lt, below_then h.bel h.bel.size hb, h.row.below hb⟩
theorem door_at (w : World) (la : Int) (v : Value) (cs : List Cp) (h : RowOf 124 5 encP w v cs) : Door w ((w.alloc (.cells #[.int .i64 la, v] 76)).alloc (.cells #[.int .i64 0, nilS] 76)) w.heap.size la v cs :=
  ⟨(doors w la v).2.1, (doors w la v).2.2, (doors w la v).1, h.below (doors w la v).1⟩
set_option maxRecDepth 100000 in
set_option maxHeartbeats 4000000 in
theorem rdouble_full (la id now : Int) (v : Value) (cs : List Cp) (w : World) (h : RowOf 124 5 encP w v cs) (hl : cs.length ≤ 1000000) (h1 : la ≤ now) (h2 : now ≤ 4611686018427387904) (h3 : isP cs id = true) (h4 : 4096 ≤ lenP cs) : Calls Try.prog 53 #[refD la v, .int .i64 id, .int .i64 now] w (Gives w (.tuple #[refD la v, .int .i64 0, .int .i64 4])) := by
  obtain ⟨A1, c1, e1, hc, hR⟩ := h.reps encP_len
  subst e1
  have D := Lib.hid (door_at w la (.slice A1 cs.length c1) cs h)
  have K := Lib.hid (fun (W : World) (hb : Below w.heap.size w W) => h3 ▸ ris_calls la id A1 c1 cs W (hR.below hb) hl)
  have K2 := Lib.hid (fun (W : World) (hb : Below w.heap.size w W) => rlen_calls la A1 c1 cs W (hR.below hb) hl)
  have q1 : ¬ now < la := by omega
  have q2 : ¬ 4611686018427387904 < now := by omega
  have q4 : (4096 : Int) ≤ (lenP cs : Int) := by omega
  clear h hc hR hl h1 h2 h3 h4
  generalize cs.length = n at *
  generalize lenP cs = lp at *
  go_enter Try.func53, Try.ntmps53
  go_wp2_with fail
  refine (K.out _ D.out.bel).mono ?_
  rintro e w3 ⟨rfl, b3⟩
  have D3 := Lib.hid (D.out.below b3)
  have x0 := D3.out.x.cell 0
  have x1 := D3.out.x.cell 1
  simp at x0 x1
  clear b3 D K
  go_wp2_with fail
  refine (K2.out _ D3.out.bel).mono ?_
  rintro e w4 ⟨rfl, b4⟩
  have D4 := Lib.hid (D3.out.below b4)
  clear x0 x1 b4 D3 K2
  have x0 := D4.out.x.cell 0
  have x1 := D4.out.x.cell 1
  have y0 := D4.out.y.cell 0
  have y1 := D4.out.y.cell 1
  have yf := D4.out.y.frozen
  obtain ⟨o1, o2, o4⟩ := out_door (la := la) (v := .slice A1 n c1) (by omega) D4.out.bel D4.out.y
  have O := Lib.hid o2
  have t0 := o1.cell 0
  have t1 := o1.cell 1
  simp at x0 x1 y0 y1
  clear o1 o2 o4 D4
  go_wp2
  exact bodyPost_ret (v := .tuple #[refD la (.slice A1 n c1), .int .i64 0, .int .i64 4]) (by simp at t0 t1; simp [results, Try.results53, go_sem, t0, t1]; done) rfl ⟨rfl, O.out⟩
theorem grown_cells {w W : World} {H : Nat} {la : Int} {v : Value} {A : Option Addr} {n cp : Nat} {cs : List Cp} (h : Grown w W H la v (.slice A n cp) cs) {k : Nat} {c : Cp} (hk : cs[k]? = some c) : ∃ ad, A = some ad ∧ ad.block < W.heap.size ∧ W.cell? (ad.add (k * 5)) = some (.int .i64 c.f.of_) ∧ W.cell? ⟨(ad.add (k * 5)).block, (ad.add (k * 5)).off + 1, Option.none⟩ = some (.int .i64 c.f.at_) ∧
    W.cell? ⟨(ad.add (k * 5)).block, (ad.add (k * 5)).off + 2, Option.none⟩ = some (.int .i64 c.f.en) ∧ W.cell? ⟨(ad.add (k * 5)).block, (ad.add (k * 5)).off + 3, Option.none⟩ = some (.int .i64 c.f.kind) ∧ W.cell? ⟨(ad.add (k * 5)).block, (ad.add (k * 5)).off + 4, Option.none⟩ = some c.v := by
  obtain ⟨A', c', e1, _, hR⟩ := h.row.reps encP_len
  injection e1 with e1 _ _
  subst e1
  exact cp_cells hR hk
set_option maxRecDepth 100000 in
set_option maxHeartbeats 4000000 in
theorem rdouble_ok (la now : Int) (k : Nat) (v : Value) (cs : List Cp) (c : Cp) (w : World) (h : RowOf 124 5 encP w v cs) (hl : cs.length ≤ 1000000) (h1 : la ≤ now) (h2 : now ≤ 4611686018427387904) (h3 : isP cs k = true) (hk : cs[k]? = some c) (h4 : lenP cs < 4096) :
    Calls Try.prog 53 #[refD la v, .int .i64 k, .int .i64 now] w (RefNew w now (cs ++ [c]) (.int .i64 cs.length) (.int .i64 0)) := by
  obtain ⟨i0, hi, hz0, hz1, hz2⟩ := info_parts info124
  obtain ⟨A1, c1, e1, hc, hR⟩ := h.reps encP_len
  have hA1 := row_nil h e1
  subst e1
  have D := Lib.hid (door_at w la (.slice A1 cs.length c1) cs h)
  have K := Lib.hid (fun (W : World) (hb : Below w.heap.size w W) => h3 ▸ ris_calls la k A1 c1 cs W (hR.below hb) hl)
  have K2 := Lib.hid (fun (W : World) (hb : Below w.heap.size w W) => rlen_calls la A1 c1 cs W (hR.below hb) hl)
  have hkl : k < cs.length := (List.getElem?_eq_some_iff.1 hk).1
  have HK := Lib.hid hk
  have q1 : ¬ now < la := by omega
  have q2 : ¬ 4611686018427387904 < now := by omega
  have q4 : ¬ (4096 : Int) ≤ (lenP cs : Int) := by omega
  have R := Lib.hid hR
  have HA1 := Lib.hid hA1
  obtain ⟨N, hN⟩ : ∃ N, cs.length = N := ⟨_, rfl⟩
  have HN := Lib.hid hN
  rw [hN] at D K K2 hl hkl ⊢
  have q5 : (0 : Int) ≤ (k : Int) := by omega
  have q6 : (k : Int) < (N : Int) := by omega
  have HL := Lib.hid hl
  clear h hc hR h1 h2 h3 h4 hA1 hN hl hk hkl
  generalize lenP cs = lp at *
  go_enter Try.func53, Try.ntmps53
  go_wp2_with fail
  refine (K.out _ D.out.bel).mono ?_
  rintro e w3 ⟨rfl, b3⟩
  have D3 := Lib.hid (D.out.below b3)
  have x0 := D3.out.x.cell 0
  have x1 := D3.out.x.cell 1
  simp at x0 x1
  clear b3 D K
  go_wp2_with fail
  refine (K2.out _ D3.out.bel).mono ?_
  rintro e w4 ⟨rfl, b4⟩
  have D4 := Lib.hid (D3.out.below b4)
  clear x0 x1 b4 D3 K2
  have G4 := Lib.hid (grown_new (Nat.le_refl w.heap.size) D4.out.x D4.out.y D4.out.bel)
  have R4 := Lib.hid ((R.out.below D4.out.bel).below ((Below.refl _ w4).alloc (Nat.le_refl _) (.cells #[] 124)))
  have x1 := D4.out.x.cell 1
  simp at x1
  have z1 := G4.out.x.cell 1
  simp at z1
  clear D4
  go_wp2_with (at_builtin; refine wpList_append_any (by rfl) _ _ 74 (by rfl) i0 _ 56 Try.underlying74 hi hz0 hz1 hz2 (by decide) (by decide) encP_len encP_one (.slice (some ⟨w4.heap.size, 0, Option.none⟩) 0 0) ([] : List Cp) (by rfl) (row_new124 w4) _ N c1 cs HN.out (by rfl) HA1.out R4.out ?k2 ?k3 ?k4)
  case k2 => simp only [List.length_nil]; have := HL.out; unfold maxLen; omega
  case k3 => simp only [List.length_nil]; have := HL.out; omega
  case k4 =>
    intro v5 w5 hr ha
    have G5 := Lib.hid (grown_app0 G4.out (Nat.le_refl _) ha hr)
    obtain ⟨A5, c5, rfl, _⟩ := G5.out.row.slice
    clear hr ha x1 z1 G4 R4
    rw [HN.out] at G5 ⊢
    have hlt := G5.out.x.lt
    obtain ⟨ad, rfl, had, f0, f1, f2, f3, f4⟩ := grown_cells G5.out HK.out
    obtain ⟨⟨f_of, f_at, f_en, f_kd⟩, f_A, f_n, f_cp⟩ := c
    simp only [Cp.v] at f0 f1 f2 f3 f4
    clear had
    go_wp2_with (at_builtin; refine wpList_append_row (by rfl) _ _ 74 (by rfl) i0 _ 56 Try.underlying74 hi hz0 hz1 hz2 (by decide) (by decide) encP_len encP_one (.slice (some ad) N c5) cs (by rfl) (G5.out.row.same fun k hk => Below.heap_alloc w5 _ k (G5.out.row.lt k hk)) ⟨w5.heap.size, 0, Option.none⟩ 1 1 [⟨⟨f_of, f_at, f_en, f_kd⟩, f_A, f_n, f_cp⟩] rfl (by rfl) (src_copy (heap_alloc_new _ _)) ?j2 ?j3 ?j4)
    case j2 => rw [HN.out]; have := HL.out; unfold maxLen; omega
    case j3 => rw [HN.out]; have := HL.out; omega
    case j4 =>
      intro v6 w6 hr ha
      have G6 := Lib.hid (grown_app G5.out (Nat.le_refl _) ha hr)
      obtain ⟨A6, n6, c6, rfl⟩ := G6.out.row.some_slice
      have O := Lib.hid (grown_out (now := now) G6.out (Nat.le_refl _))
      clear hr ha G5 hlt f0 f1 f2 f3 f4
      have x0 := G6.out.x.cell 0
      have x1 := G6.out.x.cell 1
      have xf := G6.out.x.frozen
      have y0 := G6.out.y.cell 0
      have y1 := G6.out.y.cell 1
      have yf := G6.out.y.frozen
      simp at x0 x1 y0 y1
      go_wp2
      have t0 := O.out.1.cell 0
      have t1 := O.out.1.cell 1
      exact bodyPost_ret (v := .tuple #[refD now (.slice A6 n6 c6), .int .i64 N, .int .i64 0]) (by simp at t0 t1; simp [results, Try.results53, go_sem, t0, t1]; done) rfl ⟨_, rfl, O.out.2.1, O.out.2.2, fun k hk => by have := G6.out.own k hk; omega⟩
end Go.Proofs.Ytiphkgkhfomcaaa.Duct
