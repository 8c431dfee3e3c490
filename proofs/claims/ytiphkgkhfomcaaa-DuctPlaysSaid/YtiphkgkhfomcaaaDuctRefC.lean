/- Chapter 25 (duct): the document's Put (55). -/
import Derived.Test.YtiphkgkhfomcaaaDuctRefB
import Derived.Outline
set_option linter.unusedSimpArgs false
set_option linter.unusedVariables false
attribute [local go_sem ↓] Go.wp_at_zero Go.wp_at_succ
namespace Go.Proofs.Ytiphkgkhfomcaaa.Duct
open Go.BigFrame Go.RowKit Go.OpenShut Go.Proofs.Ytiphkgkhfomcaaa.Aid Go.Proofs.Ytiphkgkhfomcaaa.DMap Go.Proofs.Ytiphkgkhfomcaaa.Byt
abbrev refD (la : Int) (v : Value) : Value := .agg #[.int .i64 la, v]
theorem info124 : (Try.prog.info? 124).map (fun i => (i.zero, i.size, i.bytes)) = some (some (.agg #[.int .i64 0, .int .i64 0, .int .i64 0, .int .i64 0, .slice Option.none 0 0]), 5, 56) := by kernel_rfl
theorem row_new124 (w : World) : RowOf 124 5 encP (w.alloc (.cells #[] 124)) (.slice (some ⟨w.heap.size, 0, Option.none⟩) 0 0) ([] : List Cp) :=
  .inr ⟨w.heap.size, 0, #[], rfl, Nat.le_refl _, by omega, heap_alloc_new w _, by simp, rfl⟩
theorem src_copy {w : World} {b : Nat} {c : Cp} (h : Blk w b 124 #[.int .i64 c.f.of_, .int .i64 c.f.at_, .int .i64 c.f.en, .int .i64 c.f.kind, c.v]) : ∀ j u, ([c].flatMap encP)[j]? = some u → w.cell? ((⟨b, 0, Option.none⟩ : Addr).add j) = some u := by
  intro j u hu
  have hj : j < 5 := by have := (List.getElem?_eq_some_iff.1 hu).1; simpa [encP] using this
  rw [add0, h.cell j]
  have hj' : j = 0 ∨ j = 1 ∨ j = 2 ∨ j = 3 ∨ j = 4 := by omega
  rcases hj' with rfl | rfl | rfl | rfl | rfl <;> simpa [encP] using hu
/-- The two boxes at a function's door: the duct that was handed in, and the one that goes out. -/
theorem doors (w : World) (la : Int) (v : Value) : Below w.heap.size w ((w.alloc (.cells #[.int .i64 la, v] 76)).alloc (.cells #[.int .i64 0, nilS] 76)) ∧
    Blk ((w.alloc (.cells #[.int .i64 la, v] 76)).alloc (.cells #[.int .i64 0, nilS] 76)) w.heap.size 76 #[.int .i64 la, v] ∧
    Blk ((w.alloc (.cells #[.int .i64 la, v] 76)).alloc (.cells #[.int .i64 0, nilS] 76)) (w.heap.size + 1) 76 #[.int .i64 0, nilS] := by
  have Y := Blk.new (w.alloc (.cells #[.int .i64 la, v] 76)) 76 #[.int .i64 0, nilS]
  rw [World.size_alloc] at Y
  exact ⟨((Below.refl _ w).alloc (Nat.le_refl _) _).alloc (by simp) _, (Blk.new w 76 _).alloc _, Y⟩
/-- The duct that goes out is written. -/
theorem out_door {w w3 : World} {H : Nat} {la : Int} {v : Value} (hH : w.heap.size ≤ H) (hb : Below w.heap.size w w3) (hY : Blk w3 H 76 #[.int .i64 0, nilS]) :
    Blk ((w3.setCell ⟨H, 0, Option.none⟩ (.int .i64 la)).setCell ⟨H, 1, Option.none⟩ v) H 76 #[.int .i64 la, v] ∧ Below w.heap.size w ((w3.setCell ⟨H, 0, Option.none⟩ (.int .i64 la)).setCell ⟨H, 1, Option.none⟩ v) ∧
    ∀ k, k ≠ H → ((w3.setCell ⟨H, 0, Option.none⟩ (.int .i64 la)).setCell ⟨H, 1, Option.none⟩ v).heap[k]? = w3.heap[k]? :=
  ⟨((hY.set_ 0 (.int .i64 la)).set_ 1 v).eq (by simp), (hb.setCell (p := ⟨H, 0, Option.none⟩) hH _).setCell (p := ⟨H, 1, Option.none⟩) hH _, fun k hk => (Below.heap_setCell _ _ _ k hk).trans (Below.heap_setCell _ _ _ k hk)⟩
/-- What comes of a call that turns the document's duct. -/
def RefNew (w : World) (la : Int) (cs : List Cp) (r1 r2 : Value) (e : Ending) (w' : World) : Prop := ∃ v', e = .returned (.tuple #[refD la v', r1, r2]) ∧ RowOf 124 5 encP w' v' cs ∧ Below w.heap.size w w' ∧ ∀ k, v'.ownBlock = some k → w.heap.size ≤ k
theorem rput_bad (la now : Int) (v : Value) (cs : List Cp) (rv : Value) (w : World) (h : RowOf 124 5 encP w v cs) (hb : now < la ∨ 4611686018427387904 < now) : Calls Try.prog 55 #[refD la v, rv, .int .i64 now] w (Gives w (.tuple #[refD la v, .int .i64 0, .int .i64 3])) := by
  obtain ⟨A1, c1, rfl, hc⟩ := h.slice
  have O := Lib.hid (show Below w.heap.size w ((w.alloc (.cells #[.int .i64 la, .slice A1 cs.length c1] 76)).alloc (.cells #[.int .i64 la, .slice A1 cs.length c1] 76)) from ((Below.refl _ w).alloc (Nat.le_refl _) _).alloc (by simp) _)
  clear h hc
  generalize cs.length = n at *
  rcases (by omega : now < la ∨ (¬ now < la ∧ 4611686018427387904 < now)) with h1 | ⟨h1, h2⟩
  · clear hb
    go_enter Try.func55, Try.ntmps55
    go_wp2
    exact bodyPost_ret (v := .tuple #[refD la (.slice A1 n c1), .int .i64 0, .int .i64 3]) (by simp [results, Try.results55, go_sem]; done) rfl ⟨rfl, O.out⟩
  · clear hb
    go_enter Try.func55, Try.ntmps55
    go_wp2
    exact bodyPost_ret (v := .tuple #[refD la (.slice A1 n c1), .int .i64 0, .int .i64 3]) (by simp [results, Try.results55, go_sem]; done) rfl ⟨rfl, O.out⟩
theorem rput_long (la now : Int) (v : Value) (cs : List Cp) (Ar : Option Addr) (nr cr : Nat) (w : World) (h : RowOf 124 5 encP w v cs) (h1 : la ≤ now) (h2 : now ≤ 4611686018427387904) (h3 : 2096 < nr) : Calls Try.prog 55 #[refD la v, .slice Ar nr cr, .int .i64 now] w (Gives w (.tuple #[refD la v, .int .i64 0, .int .i64 9])) := by
  obtain ⟨A1, c1, rfl, hc⟩ := h.slice
  have O := Lib.hid (show Below w.heap.size w ((w.alloc (.cells #[.int .i64 la, .slice A1 cs.length c1] 76)).alloc (.cells #[.int .i64 la, .slice A1 cs.length c1] 76)) from ((Below.refl _ w).alloc (Nat.le_refl _) _).alloc (by simp) _)
  have q1 : ¬ now < la := by omega
  have q2 : ¬ 4611686018427387904 < now := by omega
  have q3 : (2096 : Int) < (nr : Int) := by omega
  clear h hc h1 h2 h3
  generalize cs.length = n at *
  go_enter Try.func55, Try.ntmps55
  go_wp2
  exact bodyPost_ret (v := .tuple #[refD la (.slice A1 n c1), .int .i64 0, .int .i64 9]) (by simp [results, Try.results55, go_sem]; done) rfl ⟨rfl, O.out⟩
set_option maxRecDepth 100000 in
set_option maxHeartbeats 4000000 in
theorem rput_full (la now : Int) (v : Value) (cs : List Cp) (Ar : Option Addr) (nr cr : Nat) (w : World) (h : RowOf 124 5 encP w v cs) (hl : cs.length ≤ 1000000) (h1 : la ≤ now) (h2 : now ≤ 4611686018427387904) (h3 : nr ≤ 2096) (h4 : 4096 ≤ lenP cs) : Calls Try.prog 55 #[refD la v, .slice Ar nr cr, .int .i64 now] w (Gives w (.tuple #[refD la v, .int .i64 0, .int .i64 4])) := by
  obtain ⟨A1, c1, e1, hc, hR⟩ := h.reps encP_len
  subst e1
  obtain ⟨d1, d2, d3⟩ := doors w la (.slice A1 cs.length c1)
  have hs2 : ((w.alloc (.cells #[.int .i64 la, .slice A1 cs.length c1] 76)).alloc (.cells #[.int .i64 0, nilS] 76)).heap.size = w.heap.size + 1 + 1 := by simp
  have K := Lib.hid (rlen_calls la A1 c1 cs _ (hR.below d1) hl)
  have D := Lib.hid (And.intro d1 (And.intro d2 (And.intro d3 hs2)))
  have q1 : ¬ now < la := by omega
  have q2 : ¬ 4611686018427387904 < now := by omega
  have q3 : ¬ (2096 : Int) < (nr : Int) := by omega
  have q4 : (4096 : Int) ≤ (lenP cs : Int) := by omega
  clear h hc hR hl h1 h2 h3 h4 d1 d2 d3 hs2
  generalize cs.length = n at *
  generalize lenP cs = lp at *
  go_enter Try.func55, Try.ntmps55
  go_wp2_with fail
  refine K.out.mono ?_
  rintro e w3 ⟨rfl, b3⟩
  have hsz := D.out.2.2.2
  have X3 := D.out.2.1.below b3 (by rw [hsz]; omega)
  have Y3 := D.out.2.2.1.below b3 (by rw [hsz]; omega)
  have B3 := below_then D.out.1 (by rw [hsz]; omega) b3
  obtain ⟨o1, o2, o4⟩ := out_door (la := la) (v := .slice A1 n c1) (by omega) B3 Y3
  have O := Lib.hid o2
  have x0 := X3.cell 0
  have x1 := X3.cell 1
  have y0 := Y3.cell 0
  have y1 := Y3.cell 1
  have yf := Y3.frozen
  have t0 := o1.cell 0
  have t1 := o1.cell 1
  simp at x0 x1 y0 y1
  clear b3 hsz Y3 B3 o1 o2 o4 D K X3
  go_wp2
  exact bodyPost_ret (v := .tuple #[refD la (.slice A1 n c1), .int .i64 0, .int .i64 4]) (by simp at t0 t1; simp [results, Try.results55, go_sem, t0, t1]; done) rfl ⟨rfl, O.out⟩
/-- The document's row, grown: the boxes at the door stay. -/
structure Grown (w W : World) (H : Nat) (la : Int) (v vn : Value) (cs : List Cp) : Prop where
  x : Blk W H 76 #[.int .i64 la, v]
  y : Blk W (H + 1) 76 #[.int .i64 0, nilS]
  row : RowOf 124 5 encP W vn cs
  bel : Below w.heap.size w W
  own : ∀ k, vn.ownBlock = some k → H + 2 ≤ k
theorem grown_app {w W W' : World} {H : Nat} {la : Int} {v vn v' : Value} {cs cs' : List Cp} {o : Obj} (h : Grown w W H la v vn cs) (hH : w.heap.size ≤ H) (ha : App (W.alloc o) W' vn v') (hr : RowOf 124 5 encP W' v' cs') : Grown w W' H la v v' cs' := by
  have hs : (W.alloc o).heap.size = W.heap.size + 1 := World.size_alloc _ _
  have l0 := h.x.lt
  have l1 := h.y.lt
  have hsz := ha.size
  have bs := h.bel.size
  have keep : ∀ j, j < W.heap.size → vn.ownBlock ≠ some j → W'.heap[j]? = W.heap[j]? := fun j h1 h2 => (ha.block j (by omega) h2).trans (Below.heap_alloc W o j h1)
  refine ⟨(keep H l0 (fun e => by have := h.own _ e; omega)).trans h.x, (keep (H + 1) l1 (fun e => by have := h.own _ e; omega)).trans h.y, hr, ⟨ha.os.trans h.bel.os, ha.tape.trans h.bel.tape, ha.output.trans h.bel.output, by omega, fun j hj => (keep j (by omega) (fun e => by have := h.own j e; omega)).trans (h.bel.block j hj)⟩, fun k hk => ?_⟩
  rcases ha.own k hk with e | e
  · exact h.own k e
  · omega
theorem grown_new {w W : World} {H : Nat} {la : Int} {v : Value} (hH : w.heap.size ≤ H) (hx : Blk W H 76 #[.int .i64 la, v]) (hy : Blk W (H + 1) 76 #[.int .i64 0, nilS]) (hb : Below w.heap.size w W) : Grown w (W.alloc (.cells #[] 124)) H la v (.slice (some ⟨W.heap.size, 0, Option.none⟩) 0 0) [] := by
  have l1 := hy.lt
  refine ⟨hx.alloc _, hy.alloc _, row_new124 W, below_then hb hb.size ((Below.refl _ W).alloc (Nat.le_refl _) _), fun k hk => ?_⟩
  have : W.heap.size = k := by simpa [Value.ownBlock] using hk
  omega
theorem grown_app0 {w W W' : World} {H : Nat} {la : Int} {v vn v' : Value} {cs cs' : List Cp} (h : Grown w W H la v vn cs) (hH : w.heap.size ≤ H) (ha : App W W' vn v') (hr : RowOf 124 5 encP W' v' cs') : Grown w W' H la v v' cs' := by
  have l0 := h.x.lt
  have l1 := h.y.lt
  have hsz := ha.size
  have bs := h.bel.size
  have keep : ∀ j, j < W.heap.size → vn.ownBlock ≠ some j → W'.heap[j]? = W.heap[j]? := fun j h1 h2 => ha.block j (by omega) h2
  refine ⟨(keep H l0 (fun e => by have := h.own _ e; omega)).trans h.x, (keep (H + 1) l1 (fun e => by have := h.own _ e; omega)).trans h.y, hr, ⟨ha.os.trans h.bel.os, ha.tape.trans h.bel.tape, ha.output.trans h.bel.output, by omega, fun j hj => (keep j (by omega) (fun e => by have := h.own j e; omega)).trans (h.bel.block j hj)⟩, fun k hk => ?_⟩
  rcases ha.own k hk with e | e
  · exact h.own k e
  · omega
/-- Behind the growth: the box at the door is written, and the one that goes out. -/
theorem grown_out {w W : World} {H : Nat} {la now : Int} {v vn : Value} {cs : List Cp} (h : Grown w W H la v vn cs) (hH : w.heap.size ≤ H) :
    let W5 := (((W.setCell ⟨H, 1, Option.none⟩ vn).setCell ⟨H, 0, Option.none⟩ (.int .i64 now)).setCell ⟨H + 1, 0, Option.none⟩ (.int .i64 now)).setCell ⟨H + 1, 1, Option.none⟩ vn
    Blk W5 (H + 1) 76 #[.int .i64 now, vn] ∧ RowOf 124 5 encP W5 vn cs ∧ Below w.heap.size w W5 := by
  intro W5
  have Y4 := (h.y.far (p := ⟨H, 1, Option.none⟩) (show H + 1 ≠ H by omega) vn).far (p := ⟨H, 0, Option.none⟩) (show H + 1 ≠ H by omega) (.int .i64 now)
  have keep : ∀ k, k ≠ H → k ≠ H + 1 → W5.heap[k]? = W.heap[k]? := fun k h1 h2 => (Below.heap_setCell _ _ _ k h2).trans ((Below.heap_setCell _ _ _ k h2).trans ((Below.heap_setCell _ _ _ k h1).trans (Below.heap_setCell _ _ _ k h1)))
  exact ⟨((Y4.set_ 0 (.int .i64 now)).set_ 1 vn).eq (by simp), h.row.same (fun k hk => keep k (fun e => by have := h.own k hk; omega) (fun e => by have := h.own k hk; omega)), (((h.bel.setCell (p := ⟨H, 1, Option.none⟩) hH _).setCell (p := ⟨H, 0, Option.none⟩) hH _).setCell (p := ⟨H + 1, 0, Option.none⟩) (by show w.heap.size ≤ H + 1; omega) _).setCell (p := ⟨H + 1, 1, Option.none⟩) (by show w.heap.size ≤ H + 1; omega) _⟩
set_option maxRecDepth 100000 in
set_option maxHeartbeats 4000000 in
theorem rput_ok (la now : Int) (v : Value) (cs : List Cp) (Ar : Option Addr) (nr cr : Nat) (w : World) (h : RowOf 124 5 encP w v cs) (hl : cs.length ≤ 1000000) (h1 : la ≤ now) (h2 : now ≤ 4611686018427387904) (h3 : nr ≤ 2096) (h4 : lenP cs < 4096) :
    Calls Try.prog 55 #[refD la v, .slice Ar nr cr, .int .i64 now] w (RefNew w now (cs ++ [⟨⟨cs.length, now, 0, 0⟩, Ar, nr, cr⟩]) (.int .i64 cs.length) (.int .i64 0)) := by
  obtain ⟨i0, hi, hz0, hz1, hz2⟩ := info_parts info124
  obtain ⟨A1, c1, e1, hc, hR⟩ := h.reps encP_len
  have hA1 : A1 = Option.none → c1 = 0 := fun hA => by
    obtain ⟨h0, hx⟩ | ⟨b, cap, cur, h0, _⟩ := h
    · rw [e1] at h0
      injection h0
    · rw [e1, hA] at h0
      injection h0 with h4
      cases h4
  subst e1
  obtain ⟨d1, d2, d3⟩ := doors w la (.slice A1 cs.length c1)
  have hs2 : ((w.alloc (.cells #[.int .i64 la, .slice A1 cs.length c1] 76)).alloc (.cells #[.int .i64 0, nilS] 76)).heap.size = w.heap.size + 1 + 1 := by simp
  have K := Lib.hid (rlen_calls la A1 c1 cs _ (hR.below d1) hl)
  have D := Lib.hid (And.intro d1 (And.intro d2 (And.intro d3 hs2)))
  have q1 : ¬ now < la := by omega
  have q2 : ¬ 4611686018427387904 < now := by omega
  have q3 : ¬ (2096 : Int) < (nr : Int) := by omega
  have q4 : ¬ (4096 : Int) ≤ (lenP cs : Int) := by omega
  have R := Lib.hid hR
  have HA1 := Lib.hid hA1
  obtain ⟨N, hN⟩ : ∃ N, cs.length = N := ⟨_, rfl⟩
  have HN := Lib.hid hN
  rw [hN] at D K hl ⊢
  have HL := Lib.hid hl
  clear h hc hR h1 h2 h3 h4 d1 d2 d3 hs2 hA1 hN hl
  generalize lenP cs = lp at *
  go_enter Try.func55, Try.ntmps55
  go_wp2_with fail
  refine K.out.mono ?_
  rintro e w3 ⟨rfl, b3⟩
  have hsz := D.out.2.2.2
  have X3 := D.out.2.1.below b3 (by rw [hsz]; omega)
  have Y3 := D.out.2.2.1.below b3 (by rw [hsz]; omega)
  have B3 := below_then D.out.1 (by rw [hsz]; omega) b3
  have G4 := Lib.hid (grown_new (Nat.le_refl w.heap.size) X3 Y3 B3)
  have R4 := Lib.hid ((R.out.below B3).below ((Below.refl _ w3).alloc (Nat.le_refl _) (.cells #[] 124)))
  have x1 := X3.cell 1
  simp at x1
  have z1 := G4.out.x.cell 1
  simp at z1
  clear b3 hsz Y3 B3 D K X3
  go_wp2_with (at_builtin; refine wpList_append_any (by rfl) _ _ 74 (by rfl) i0 _ 56 Try.underlying74 hi hz0 hz1 hz2 (by decide) (by decide) encP_len encP_one (.slice (some ⟨w3.heap.size, 0, Option.none⟩) 0 0) ([] : List Cp) (by rfl) (row_new124 w3) _ N c1 cs HN.out (by rfl) HA1.out R4.out ?k2 ?k3 ?k4)
  case k2 => simp only [List.length_nil]; have := HL.out; unfold maxLen; omega
  case k3 => simp only [List.length_nil]; have := HL.out; omega
  case k4 =>
    intro v5 w5 hr ha
    have G5 := Lib.hid (grown_app0 G4.out (Nat.le_refl _) ha hr)
    obtain ⟨A5, c5, rfl, _⟩ := G5.out.row.slice
    clear hr ha x1 z1 G4 R4
    rw [HN.out] at G5 ⊢
    have hlt := G5.out.x.lt
    go_wp2_with (at_builtin; refine wpList_append_row (by rfl) _ _ 74 (by rfl) i0 _ 56 Try.underlying74 hi hz0 hz1 hz2 (by decide) (by decide) encP_len encP_one (.slice A5 N c5) cs (by rfl) (G5.out.row.same fun k hk => Below.heap_alloc w5 _ k (G5.out.row.lt k hk)) ⟨w5.heap.size, 0, Option.none⟩ 1 1 [⟨⟨N, now, 0, 0⟩, Ar, nr, cr⟩] rfl (by rfl) (src_copy (heap_alloc_new _ _)) ?j2 ?j3 ?j4)
    case j2 => rw [HN.out]; have := HL.out; unfold maxLen; omega
    case j3 => rw [HN.out]; have := HL.out; omega
    case j4 =>
      intro v6 w6 hr ha
      have G6 := Lib.hid (grown_app G5.out (Nat.le_refl _) ha hr)
      obtain ⟨A6, n6, c6, rfl⟩ := G6.out.row.some_slice
      have O := Lib.hid (grown_out (now := now) G6.out (Nat.le_refl _))
      clear hr ha G5 hlt
      have x0 := G6.out.x.cell 0
      have x1 := G6.out.x.cell 1
      have xf := G6.out.x.frozen
      have y0 := G6.out.y.cell 0
      have y1 := G6.out.y.cell 1
      have yf := G6.out.y.frozen
      simp at x0 x1 y0 y1
      go_wp2
      have t0 := O.out.1.cell 0
      have t1 := O.out.1.cell 1
      exact bodyPost_ret (v := .tuple #[refD now (.slice A6 n6 c6), .int .i64 N, .int .i64 0]) (by simp at t0 t1; simp [results, Try.results55, go_sem, t0, t1]; done) rfl ⟨_, rfl, O.out.2.1, O.out.2.2, fun k hk => by have := G6.out.own k hk; omega⟩
end Go.Proofs.Ytiphkgkhfomcaaa.Duct
