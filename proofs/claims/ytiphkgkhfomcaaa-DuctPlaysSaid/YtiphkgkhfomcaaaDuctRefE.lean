/- Chapter 25 (duct): the document's End (54). -/
import Derived.Test.YtiphkgkhfomcaaaDuctRefD
import Derived.Deep.RegionHeld3
import Derived.Deep.DrawnRows
set_option linter.unusedSimpArgs false
set_option linter.unusedVariables false
attribute [local go_sem ↓] Go.wp_at_zero Go.wp_at_succ
namespace Go.Proofs.Ytiphkgkhfomcaaa.Duct
open Go.BigFrame Go.RowKit Go.OpenShut Go.Proofs.Ytiphkgkhfomcaaa.Aid Go.Proofs.Ytiphkgkhfomcaaa.DMap Go.Proofs.Ytiphkgkhfomcaaa.Byt
theorem flat_setP (i : Nat) (u : Value) (hi : i < 5) (x' : Cp) : ∀ (xs : List Cp) (k : Nat) (x : Cp), xs[k]? = some x → encP x' = (encP x).set i u → (xs.flatMap encP).set (k * 5 + i) u = (xs.set k x').flatMap encP
  | [], k, x, h, _ => by simp at h
  | y :: r, 0, x, h, e => by
    obtain rfl : y = x := by simpa using h
    simp only [Nat.zero_mul, Nat.zero_add, List.flatMap_cons, List.set_cons_zero, e]
    rw [List.set_append_left _ _ (by rw [encP_len]; exact hi)]
  | y :: r, k + 1, x, h, e => by
    have := flat_setP i u hi x' r k x (by simpa using h) e
    simp only [List.flatMap_cons, List.set_cons_succ]
    rw [List.set_append_right _ _ (by rw [encP_len]; omega), encP_len, ← this]
    congr 2
    omega
theorem row_setP {w : World} {b n cap : Nat} {cs : List Cp} (h : RowOf 124 5 encP w (.slice (some ⟨b, 0, Option.none⟩) n cap) cs) (k i : Nat) (u : Value) (hi : i < 5) (x x' : Cp) (hx : cs[k]? = some x) (e : encP x' = (encP x).set i u) :
    RowOf 124 5 encP (w.setCell ⟨b, k * 5 + i, Option.none⟩ u) (.slice (some ⟨b, 0, Option.none⟩) n cap) (cs.set k x') := by
  obtain ⟨h0, _⟩ | ⟨b', cap', cur, h0, h1, h2, h3, h4, h5⟩ := h
  · injection h0 with h0
    cases h0
  · injection h0 with e1 e2 e3
    obtain rfl : b = b' := by simpa using e1
    subst e2 e3
    have hk : k < cs.length := (List.getElem?_eq_some_iff.1 hx).1
    refine .inr ⟨b, cap, cur.setIfInBounds (k * 5 + i) u, by simp, by simpa using h1, h2, Blk.set_ (t := 124) h3 (k * 5 + i) u, by simpa using h4, ?_⟩
    rw [List.length_set, Array.toList_setIfInBounds, List.take_set, h5]
    exact flat_setP i u hi x' cs k x hx e
theorem grown_set {w W : World} {H : Nat} {la : Int} {v : Value} {b n cap : Nat} {cs : List Cp} (h : Grown w W H la v (.slice (some ⟨b, 0, Option.none⟩) n cap) cs) (hH : w.heap.size ≤ H) (k i : Nat) (u : Value) (hi : i < 5) (x x' : Cp) (hx : cs[k]? = some x) (e : encP x' = (encP x).set i u) :
    Grown w (W.setCell ⟨b, k * 5 + i, Option.none⟩ u) H la v (.slice (some ⟨b, 0, Option.none⟩) n cap) (cs.set k x') := by
  have hb := h.own b rfl
  exact ⟨h.x.far (p := ⟨b, k * 5 + i, Option.none⟩) (show H ≠ b by omega) u, h.y.far (p := ⟨b, k * 5 + i, Option.none⟩) (show H + 1 ≠ b by omega) u, row_setP h.row k i u hi x x' hx e, h.bel.setCell (p := ⟨b, k * 5 + i, Option.none⟩) (by show w.heap.size ≤ b; omega) u, h.own⟩
theorem row_frozenP {w : World} {b n cap : Nat} {cs : List Cp} (h : RowOf 124 5 encP w (.slice (some ⟨b, 0, Option.none⟩) n cap) cs) : ∀ i, w.frozen? ⟨b, i, Option.none⟩ = false := by
  obtain ⟨h0, _⟩ | ⟨b', cap', cur, h0, _, _, h3, _⟩ := h
  · injection h0 with h0; cases h0
  · injection h0 with h0
    obtain rfl : b = b' := by simpa using h0
    exact fun i => Blk.frozen h3 i
theorem rend_bad (la id now kind : Int) (v : Value) (cs : List Cp) (w : World) (h : RowOf 124 5 encP w v cs) (hb : now < la ∨ 4611686018427387904 < now) : Calls Try.prog 54 #[refD la v, .int .i64 id, .int .i64 now, .int .i64 kind] w (Gives w (.tuple #[refD la v, nilS, .int .i64 3])) := by
  obtain ⟨A1, c1, rfl, hc⟩ := h.slice
  have O := Lib.hid (show Below w.heap.size w ((w.alloc (.cells #[.int .i64 la, .slice A1 cs.length c1] 76)).alloc (.cells #[.int .i64 la, .slice A1 cs.length c1] 76)) from ((Below.refl _ w).alloc (Nat.le_refl _) _).alloc (by simp) _)
  clear h hc
  generalize cs.length = n at *
  rcases (by omega : now < la ∨ (¬ now < la ∧ 4611686018427387904 < now)) with h1 | ⟨h1, h2⟩
  · clear hb
    go_enter Try.func54, Try.ntmps54
    go_wp2
    exact bodyPost_ret (v := .tuple #[refD la (.slice A1 n c1), nilS, .int .i64 3]) (by simp [results, Try.results54, go_sem]; done) rfl ⟨rfl, O.out⟩
  · clear hb
    go_enter Try.func54, Try.ntmps54
    go_wp2
    exact bodyPost_ret (v := .tuple #[refD la (.slice A1 n c1), nilS, .int .i64 3]) (by simp [results, Try.results54, go_sem]; done) rfl ⟨rfl, O.out⟩
set_option maxRecDepth 100000 in
set_option maxHeartbeats 4000000 in
theorem rend_none (la id now kind : Int) (v : Value) (cs : List Cp) (w : World) (h : RowOf 124 5 encP w v cs) (hl : cs.length ≤ 1000000) (h1 : la ≤ now) (h2 : now ≤ 4611686018427387904) (h3 : isP cs id = false) : Calls Try.prog 54 #[refD la v, .int .i64 id, .int .i64 now, .int .i64 kind] w (Gives w (.tuple #[refD la v, nilS, .int .i64 10])) := by
  obtain ⟨A1, c1, e1, hc, hR⟩ := h.reps encP_len
  subst e1
  have D := Lib.hid (door_at w la (.slice A1 cs.length c1) cs h)
  have K := Lib.hid (fun (W : World) (hb : Below w.heap.size w W) => h3 ▸ ris_calls la id A1 c1 cs W (hR.below hb) hl)
  have q1 : ¬ now < la := by omega
  have q2 : ¬ 4611686018427387904 < now := by omega
  clear h hc hR hl h1 h2 h3
  generalize cs.length = n at *
  go_enter Try.func54, Try.ntmps54
  go_wp2_with fail
  refine (K.out _ D.out.bel).mono ?_
  rintro e w3 ⟨rfl, b3⟩
  have D3 := Lib.hid (D.out.below b3)
  have x0 := D3.out.x.cell 0
  have x1 := D3.out.x.cell 1
  have y0 := D3.out.y.cell 0
  have y1 := D3.out.y.cell 1
  have yf := D3.out.y.frozen
  obtain ⟨o1, o2, o4⟩ := out_door (la := la) (v := .slice A1 n c1) (by omega) D3.out.bel D3.out.y
  have O := Lib.hid o2
  have t0 := o1.cell 0
  have t1 := o1.cell 1
  simp at x0 x1 y0 y1
  clear o1 o2 o4 D3 b3 D K
  go_wp2
  exact bodyPost_ret (v := .tuple #[refD la (.slice A1 n c1), nilS, .int .i64 10]) (by simp at t0 t1; simp [results, Try.results54, go_sem, t0, t1]; done) rfl ⟨rfl, O.out⟩
/-- The box at the door is written. -/
theorem grown_mid {w W : World} {H : Nat} {la now : Int} {v vn : Value} {cs : List Cp} (h : Grown w W H la v vn cs) :
    Blk ((W.setCell ⟨H, 1, Option.none⟩ vn).setCell ⟨H, 0, Option.none⟩ (.int .i64 now)) H 76 #[.int .i64 now, vn] ∧ Blk ((W.setCell ⟨H, 1, Option.none⟩ vn).setCell ⟨H, 0, Option.none⟩ (.int .i64 now)) (H + 1) 76 #[.int .i64 0, nilS] :=
  ⟨((h.x.set_ 1 vn).set_ 0 (.int .i64 now)).eq (by simp), (h.y.far (p := ⟨H, 1, Option.none⟩) (show H + 1 ≠ H by omega) vn).far (p := ⟨H, 0, Option.none⟩) (show H + 1 ≠ H by omega) _⟩
theorem grown_mid4 {w W : World} {H : Nat} {la now : Int} {v u : Value} {b n cp : Nat} {cs : List Cp} (h : Grown w W H la v (.slice (some ⟨b, 0, Option.none⟩) n cp) cs) (i : Nat) (hu : W.cell? ⟨b, i, Option.none⟩ = some u) :
    ((W.setCell ⟨H, 1, Option.none⟩ (.slice (some ⟨b, 0, Option.none⟩) n cp)).setCell ⟨H, 0, Option.none⟩ (.int .i64 now)).cell? ⟨b, i, Option.none⟩ = some u := by
  have hb := h.own b rfl
  have e : ((W.setCell ⟨H, 1, Option.none⟩ (.slice (some ⟨b, 0, Option.none⟩) n cp)).setCell ⟨H, 0, Option.none⟩ (.int .i64 now)).heap[b]? = W.heap[b]? := (Below.heap_setCell _ _ _ b (show b ≠ H by omega)).trans (Below.heap_setCell _ _ _ b (show b ≠ H by omega))
  rw [← hu]
  unfold World.cell?
  simp only [e]
set_option maxRecDepth 100000 in
set_option maxHeartbeats 4000000 in
theorem rend_ok (la now kind : Int) (k : Nat) (v : Value) (cs : List Cp) (c : Cp) (w : World) (h : RowOf 124 5 encP w v cs) (hl : cs.length ≤ 1000000) (h1 : la ≤ now) (h2 : now ≤ 4611686018427387904) (h3 : isP cs k = true) (hk : cs[k]? = some c) :
    Calls Try.prog 54 #[refD la v, .int .i64 k, .int .i64 now, .int .i64 kind] w (RefNew w now (cs.set k ⟨⟨c.f.of_, c.f.at_, now, kind⟩, c.A, c.n, c.cp⟩) c.v (.int .i64 0)) := by
  obtain ⟨i0, hi, hz0, hz1, hz2⟩ := info_parts info124
  obtain ⟨A1, c1, e1, hc, hR⟩ := h.reps encP_len
  have hA1 := row_nil h e1
  subst e1
  have D := Lib.hid (door_at w la (.slice A1 cs.length c1) cs h)
  have K := Lib.hid (fun (W : World) (hb : Below w.heap.size w W) => h3 ▸ ris_calls la k A1 c1 cs W (hR.below hb) hl)
  have hkl : k < cs.length := (List.getElem?_eq_some_iff.1 hk).1
  have HK := Lib.hid hk
  have q1 : ¬ now < la := by omega
  have q2 : ¬ 4611686018427387904 < now := by omega
  have R := Lib.hid hR
  have HA1 := Lib.hid hA1
  obtain ⟨N, hN⟩ : ∃ N, cs.length = N := ⟨_, rfl⟩
  have HN := Lib.hid hN
  rw [hN] at D K hl hkl ⊢
  have q5 : (0 : Int) ≤ (k : Int) := by omega
  have q6 : (k : Int) < (N : Int) := by omega
  have HL := Lib.hid hl
  clear h hc hR h1 h2 h3 hA1 hN hl hk
  go_enter Try.func54, Try.ntmps54
  go_wp2_with fail
  refine (K.out _ D.out.bel).mono ?_
  rintro e w4 ⟨rfl, b3⟩
  have D4 := Lib.hid (D.out.below b3)
  clear b3 D K
  have G4 := Lib.hid (grown_new (Nat.le_refl w.heap.size) D4.out.x D4.out.y D4.out.bel)
  have R4 := Lib.hid ((R.out.below D4.out.bel).below ((Below.refl _ w4).alloc (Nat.le_refl _) (.cells #[] 124)))
  have x1 := D4.out.x.cell 1
  simp at x1
  have z1 := G4.out.x.cell 1
  simp at z1
  clear D4
  go_wp2_with (at_builtin; refine wpList_append_any (by rfl) _ _ 74 (by rfl) i0 _ 56 Try.underlying74 hi hz0 hz1 hz2 (by decide) (by decide) encP_len encP_one (.slice (some ⟨w4.heap.size, 0, Option.none⟩) 0 0) ([] : List Cp) (by rfl) (row_new124 w4) _ N c1 cs HN.out (by rfl) HA1.out R4.out ?k2 ?k3 ?k4)
  case k2 => simp only [List.length_nil]; have := HL.out; unfold maxLen; omega
  case k3 => simp only [List.length_nil]; have := HL.out; omega
  case k4 =>
    intro v5 w5 hr ha
    have G5 := Lib.hid (grown_app0 G4.out (Nat.le_refl _) ha hr)
    obtain ⟨A5, c5, rfl, _⟩ := G5.out.row.slice
    clear hr ha x1 z1 G4 R4
    rw [HN.out] at G5 ⊢
    obtain ⟨b, rfl⟩ : ∃ b, A5 = some ⟨b, 0, Option.none⟩ := by
      obtain ⟨_, h0⟩ | ⟨b, cap, cur, h0, _⟩ := G5.out.row
      · have := HN.out; rw [h0] at this; simp at this; omega
      · injection h0 with h0; exact ⟨b, h0⟩
    obtain ⟨⟨f_of, f_at, f_en, f_kd⟩, f_A, f_n, f_cp⟩ := c
    have hk5 := HK.out
    have G6 := Lib.hid (grown_set G5.out (Nat.le_refl _) k 2 (.int .i64 now) (by omega) _ ⟨⟨f_of, f_at, now, f_kd⟩, f_A, f_n, f_cp⟩ hk5 rfl)
    have hk6 : (cs.set k ⟨⟨f_of, f_at, now, f_kd⟩, f_A, f_n, f_cp⟩)[k]? = some ⟨⟨f_of, f_at, now, f_kd⟩, f_A, f_n, f_cp⟩ := List.getElem?_set_self (by have := HN.out; omega)
    have G7 := Lib.hid (grown_set G6.out (Nat.le_refl _) k 3 (.int .i64 kind) (by omega) _ ⟨⟨f_of, f_at, now, kind⟩, f_A, f_n, f_cp⟩ hk6 rfl)
    rw [List.set_set] at G7
    have hk7 : (cs.set k ⟨⟨f_of, f_at, now, kind⟩, f_A, f_n, f_cp⟩)[k]? = some ⟨⟨f_of, f_at, now, kind⟩, f_A, f_n, f_cp⟩ := List.getElem?_set_self (by have := HN.out; omega)
    obtain ⟨ad, ea, had, f0, f1, f2, f3, f4⟩ := grown_cells G5.out hk5
    obtain rfl : (⟨b, 0, Option.none⟩ : Addr) = ad := Option.some.inj ea
    simp only [add0] at f0 f1 f2 f3 f4
    have fz := row_frozenP G5.out.row
    obtain ⟨ad, ea, _, _, _, _, g3, _⟩ := grown_cells G6.out hk6
    obtain rfl : (⟨b, 0, Option.none⟩ : Addr) = ad := Option.some.inj ea
    have fz6 := row_frozenP G6.out.row
    obtain ⟨ad, ea, _, _, _, _, _, e4⟩ := grown_cells G7.out hk7
    obtain rfl : (⟨b, 0, Option.none⟩ : Addr) = ad := Option.some.inj ea
    simp only [add0, Cp.v] at f2 g3 e4 ⊢
    have hbH := G7.out.own b rfl
    have u4 := grown_mid4 (now := now) G7.out (k * 5 + 4) e4
    obtain ⟨m0, m1⟩ := grown_mid (now := now) G7.out
    have O := Lib.hid (grown_out (now := now) G7.out (Nat.le_refl _))
    clear f0 f1 f3 f4 hk5 hk6 hk7 had ea e4
    go_upto_region 8 with fail
    have x1 := G7.out.x.cell 1
    have x0 := G7.out.x.cell 0
    have xf := G7.out.x.frozen
    simp at x0 x1
    have G7' := Lib.hid G7.out
    clear G5 G6 G7 f2 g3 fz fz6
    revert O m0 m1 u4 G7' x0 x1 xf
    generalize (w5.setCell ⟨b, k * 5 + 2, Option.none⟩ (.int .i64 now)).setCell ⟨b, k * 5 + 3, Option.none⟩ (.int .i64 kind) = w7
    intro u4 m0 m1 O x1 x0 xf G7'
    go_upto_region 10 with fail
    have hO := O.out
    clear O x0 x1 xf
    revert hO m0 m1 u4
    generalize (w7.setCell ⟨w.heap.size, 1, Option.none⟩ (.slice (some ⟨b, 0, Option.none⟩) N c5)).setCell ⟨w.heap.size, 0, Option.none⟩ (.int .i64 now) = w9
    intro u4 m0 m1 hO
    have O := Lib.hid hO
    clear hO
    have x0 := m0.cell 0
    have x1 := m0.cell 1
    have y0 := m1.cell 0
    have y1 := m1.cell 1
    have yf := m1.frozen
    simp at x0 x1 y0 y1
    clear m0 m1
    go_region
    all_goals
      go_wp2
      have t0 := O.out.1.cell 0
      have t1 := O.out.1.cell 1
      exact bodyPost_ret (v := .tuple #[refD now (.slice (some ⟨b, 0, Option.none⟩) N c5), .slice f_A f_n f_cp, .int .i64 0]) (by simp at t0 t1; simp [results, Try.results54, go_sem, t0, t1]; done) rfl ⟨_, rfl, O.out.2.1.same (fun _ _ => rfl), below_drew O.out.2.2, fun k hk => by have := G7'.out.own k hk; omega⟩
end Go.Proofs.Ytiphkgkhfomcaaa.Duct
