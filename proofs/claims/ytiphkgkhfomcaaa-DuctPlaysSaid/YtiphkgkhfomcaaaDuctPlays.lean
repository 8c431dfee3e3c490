/- Chapter 25 (duct): whatever is put, doubled, comes and is dropped (law 6): the walk. -/
import Derived.Test.YtiphkgkhfomcaaaDuctPlaysP
set_option linter.unusedSimpArgs false
set_option linter.unusedVariables false
attribute [local go_sem ↓] Go.wp_at_zero Go.wp_at_succ
namespace Go.Proofs.Ytiphkgkhfomcaaa.Duct
open Go.BigFrame Go.RowKit Go.OpenShut Go.Proofs.Ytiphkgkhfomcaaa.Aid Go.Proofs.Ytiphkgkhfomcaaa.DMap Go.Proofs.Ytiphkgkhfomcaaa.Byt
theorem qops {w : World} {B : Option Addr} {ops : List OpQ} (hB : Reps w B 4 encQ ops) (i : Nat) (o : OpQ) (hoi : ops[i]? = some o) : ∃ oa, B = some oa ∧ oa.block < w.heap.size ∧ w.cell? (oa.add (i * 4)) = some (.int .u8 o.k) ∧ w.cell? ⟨oa.block, (oa.add (i * 4)).off + 1, Option.none⟩ = some (.int .i64 o.id_) ∧ w.cell? ⟨oa.block, (oa.add (i * 4)).off + 2, Option.none⟩ = some (.slice o.A o.xs.length o.cap) ∧ w.cell? ⟨oa.block, (oa.add (i * 4)).off + 3, Option.none⟩ = some (.int .i64 o.dt) := by
  obtain ⟨oa, e, hl, hc⟩ := hB i o hoi
  have hb := add_blk oa (i * 4)
  refine ⟨oa, e, hl, hc 0 _ rfl, ?_, ?_, ?_⟩
  · rw [← hb]; exact (add_next oa (i * 4) 1 (by omega)) ▸ hc 1 _ rfl
  · rw [← hb]; exact (add_next oa (i * 4) 2 (by omega)) ▸ hc 2 _ rfl
  · rw [← hb]; exact (add_next oa (i * 4) 3 (by omega)) ▸ hc 3 _ rfl
set_option maxRecDepth 100000 in
set_option maxHeartbeats 8000000 in
theorem plays_walk (B : Option Addr) (cap : Nat) (ops : List OpQ) (q : OpQ) (w : World) (hB : Reps w B 4 encQ ops) (ho : ∀ o ∈ ops, OpQok w o) (hq : OpQok w q) (hl : ops.length ≤ 9223372036854775807) :
    Calls Try.prog 9 #[.slice B ops.length cap, opV q] w (Gives w (.bool true)) := by
  have HB := Lib.hid hB
  have HO := Lib.hid ho
  have HQ := Lib.hid hq
  have OB0 := Lib.hid (Blk.new w 63 #[.int .u8 q.k, .int .i64 q.id_, .slice q.A q.xs.length q.cap, .int .i64 q.dt])
  have b0 := Lib.hid ((Below.refl w.heap.size w).alloc (Nat.le_refl _) (.cells #[.int .u8 q.k, .int .i64 q.id_, .slice q.A q.xs.length q.cap, .int .i64 q.dt] 63))
  clear hB ho hq
  go_enter Try.func9, Try.ntmps9
  go_wp2_with fail
  revert OB0 b0
  generalize w.alloc (.cells #[.int .u8 q.k, .int .i64 q.id_, .slice q.A q.xs.length q.cap, .int .i64 q.dt] 63) = w0
  generalize hOO : w.heap.size = O
  intro OB0 b0
  refine (known_calls w0).mono ?_
  rintro e w1 ⟨rfl, b1⟩
  have HOO := Lib.hid hOO
  have B1 := Lib.hid (below_then b0.out (by rw [← hOO]; exact b0.out.size) b1)
  clear hOO
  have OB1 := Lib.hid (OB0.out.below b1 OB0.out.lt)
  clear OB0 b0 b1
  go_wp2_with fail
  refine (new_calls w1).mono ?_
  rintro e w2 ⟨g, mb, m0, rfl, hd, b2, n1, n2⟩
  have P0 : PlD w (w2.alloc (.cells #[.int .i64 0, nilS] 76)) O w2.heap.size g mb nilS m0 empty [] nilS #[.int .u8 q.k, .int .i64 q.id_, .slice q.A q.xs.length q.cap, .int .i64 q.dt] := by
    have ba : Below w2.heap.size w2 (w2.alloc (.cells #[.int .i64 0, nilS] 76)) := (Below.refl _ w2).alloc (Nat.le_refl _) _
    have s1 := B1.out.size
    have s2 := b2.size
    have hOO := HOO.out
    have hB2 : Below w.heap.size w w2 := by rw [hOO]; exact below_then B1.out (by omega) b2
    exact ⟨⟨hd.below ba, by omega, by omega, fun k hk => by simp [nilS, Value.ownBlock] at hk, below_then hB2 (by omega) ba⟩, .inl ⟨rfl, rfl⟩, agree_empty w, Blk.new w2 76 _, (OB1.out.below b2 OB1.out.lt).below ba (OB1.out.below b2 OB1.out.lt).lt, by omega⟩
  clear hd b2 n1 n2 B1 OB1
  go_upto_region 5 with fail
  revert P0
  generalize w2.alloc (.cells #[.int .i64 0, nilS] 76) = w3
  generalize w2.heap.size = G
  intro P0
  have S0 := Lib.hid P0
  clear P0
  go_wp2
  go_loopw [7, 8] (fun nv iv wr => ∃ (i : Nat) (now : Int) (fv : Value) (m : Int → Option Value) (L : Dt) (cs : List Cp) (v : Value), iv = .int .i64 i ∧ nv = .int .i64 now ∧ i ≤ 80 ∧ i ≤ ops.length ∧ -(9 * (i : Int)) ≤ now ∧ now ≤ 1099511627776 * (i : Int) ∧ Hid (L.fates.length ≤ i) ∧ Hid (PlD w wr O G g mb fv m L cs v #[.int .u8 q.k, .int .i64 q.id_, .slice q.A q.xs.length q.cap, .int .i64 q.dt])) (fun _ iv _ => 80 - (intOf iv).toNat)
  case atStart => exact ⟨0, 0, _, _, _, _, _, rfl, rfl, by omega, by omega, by omega, by omega, Lib.hid (by simp [empty]), S0⟩
  case round =>
    obtain ⟨i, now, fv, m, L, cs, v, rfl, rfl, hi80, hil, hn0, hn1, hlen, hP⟩ := hrel
    clear S0
    by_cases hlt : i < 80 ∧ i < ops.length
    · obtain ⟨o, hoi⟩ : ∃ o, ops[i]? = some o := ⟨_, List.getElem?_eq_getElem hlt.2⟩
      obtain ⟨oa, oe, hol0, hc0, hc1, hc2, hc3⟩ := qops HB.out i o hoi
      subst oe
      have OK := Lib.hid (HO.out o (List.mem_of_getElem? hoi))
      have hdt := OK.out.dt
      have hi1 : (i : Int) < 80 := by omega
      have hi2 : (i : Int) < (ops.length : Int) := by omega
      have hi3 : (0 : Int) ≤ (i : Int) := by omega
      obtain ⟨ok, onm, oA, oxs, ocap, odt⟩ := o
      simp only at hc0 hc1 hc2 hc3 hdt
      have hob := add_blk oa (i * 4)
      have AT : Hid (∀ W, Below w.heap.size w W → W.cell? (oa.add (i * 4)) = some (.int .u8 ok) ∧ W.cell? ⟨oa.block, (oa.add (i * 4)).off + 1, Option.none⟩ = some (.int .i64 onm) ∧ W.cell? ⟨oa.block, (oa.add (i * 4)).off + 2, Option.none⟩ = some (.slice oA oxs.length ocap) ∧ W.cell? ⟨oa.block, (oa.add (i * 4)).off + 3, Option.none⟩ = some (.int .i64 odt)) :=
        Lib.hid (fun W hW => ⟨(hW.cell (p := oa.add (i * 4)) (by rw [hob]; exact hol0)).trans hc0, (hW.cell (p := ⟨oa.block, (oa.add (i * 4)).off + 1, Option.none⟩) hol0).trans hc1, (hW.cell (p := ⟨oa.block, (oa.add (i * 4)).off + 2, Option.none⟩) hol0).trans hc2, (hW.cell (p := ⟨oa.block, (oa.add (i * 4)).off + 3, Option.none⟩) hol0).trans hc3⟩)
      have HOL := Lib.hid hol0
      clear hc0 hc1 hc2 hc3 hoi
      obtain ⟨d0, d1, d2, d3⟩ := AT.out wr hP.out.st.bel
      obtain ⟨Av, nv, cv, rfl⟩ := hP.out.row.some_slice
      have x0 := hP.out.box.cell 0
      have x1 := hP.out.box.cell 1
      simp at x0 x1
      have AFT := Lib.hid (fun (WX w7 : World) (fv' : Value) (m' : Int → Option Value) (L' : Dt) (hW : Below wr.heap.size wr WX) (k1 : St w w7 g mb fv' m' L') (k4 : Keeps WX w7 g mb fv) => show (w7.cell? ⟨G, 0, Option.none⟩ = some (.int .i64 L.last) ∧ w7.cell? ⟨G, 1, Option.none⟩ = some (.slice Av nv cv)) ∧ (w7.cell? (oa.add (i * 4)) = some (.int .u8 ok) ∧ w7.cell? ⟨oa.block, (oa.add (i * 4)).off + 1, Option.none⟩ = some (.int .i64 onm) ∧ w7.cell? ⟨oa.block, (oa.add (i * 4)).off + 2, Option.none⟩ = some (.slice oA oxs.length ocap) ∧ w7.cell? ⟨oa.block, (oa.add (i * 4)).off + 3, Option.none⟩ = some (.int .i64 odt)) from by
        have PX := hP.out.below hW
        obtain ⟨g1, g2, g3⟩ := blk_far PX.st.d PX.box (by decide) (by decide)
        have y : Blk w7 G 76 #[.int .i64 L.last, .slice Av nv cv] := (k4.block G PX.box.lt g1 g2 g3).trans PX.box
        have y0 := y.cell 0
        have y1 := y.cell 1
        simp at y0 y1
        exact ⟨⟨y0, y1⟩, AT.out w7 k1.bel⟩)
      have KX := Lib.hid (fun (WX w7 : World) (hW : Below wr.heap.size wr WX) (k4 : Keeps WX w7 g mb fv) (hb : Blk WX wr.heap.size 76 #[.int .i64 0, nilS]) => show Blk w7 wr.heap.size 76 #[.int .i64 0, nilS] from by
        have PX := hP.out.below hW
        obtain ⟨g1, g2, g3⟩ := blk_far PX.st.d hb (by decide) (by decide)
        exact (k4.block _ hb.lt g1 g2 g3).trans hb)
      have BX := Lib.hid (Blk.new wr 76 #[.int .i64 0, nilS])
      have hsw := hP.out.st.bel.size
      have hol := HOL.out
      have nw1 : ¬ wr.heap.size = G := by have := hP.out.box.lt; omega
      have nw2 : ¬ G = wr.heap.size := by omega
      have nw3 : ¬ wr.heap.size = oa.block := by omega
      have nw4 : ¬ oa.block = wr.heap.size := by omega
      clear hsw hol
      have r1 : -(9 * (i : Int)) - 9 ≤ now := by omega
      have r2 : now ≤ 1099511627776 * 80 := by omega
      rcases (by omega : ¬ (-9 ≤ odt) ∨ (-9 ≤ odt ∧ ¬ (odt ≤ 1099511627776)) ∨ (-9 ≤ odt ∧ odt ≤ 1099511627776)) with g1 | ⟨g1, g2⟩ | ⟨g1, g2⟩
      · skip
        have HLn := Lib.hid (show (doR L ok onm oxs (now)).fates.length ≤ i + 1 from Nat.le_trans (doR_len L ok onm oxs (now)) (by have := hlen.out; omega))
        have KD := Lib.hid (fun (WX : World) (hW : Below wr.heap.size wr WX) => does_calls (hP.out.st.below hW) (hP.out.row.below hW) hP.out.ag (by have := hlen.out; omega) ok onm (now) odt (.slice oA oxs.length ocap) oxs OK.out.src OK.out.len OK.out.fit OK.out.k0)
        generalize doR L ok onm oxs (now) = L' at HLn KD
        go_upto_region 11 with fail
        go_region_held3 (fun W => W.cell? ⟨G, 0, Option.none⟩ = some (.int .i64 L.last) ∧ W.cell? ⟨G, 1, Option.none⟩ = some (.slice Av nv cv) ∧ W.cell? (oa.add (i * 4)) = some (.int .u8 ok) ∧ W.cell? ⟨oa.block, (oa.add (i * 4)).off + 1, Option.none⟩ = some (.int .i64 onm) ∧ W.cell? ⟨oa.block, (oa.add (i * 4)).off + 2, Option.none⟩ = some (.slice oA oxs.length ocap) ∧ W.cell? ⟨oa.block, (oa.add (i * 4)).off + 3, Option.none⟩ = some (.int .i64 odt)) (go_keep) ((go_at_call 35; refine (KD.out _ (by first | exact below_drew (Below.refl _ _) | exact below_drew (below_drew (Below.refl _ _)) | exact below_drew ((Below.refl _ _).alloc (Nat.le_refl _) _) | exact (Below.refl _ _).alloc (Nat.le_refl _) _ | exact (below_drew (Below.refl _ _)).alloc (Nat.le_refl _) _ | exact below_drew ((below_drew (Below.refl _ _)).alloc (Nat.le_refl _) _) | exact below_drew (below_drew ((Below.refl _ _).alloc (Nat.le_refl _) _)))).mono ?_; rintro e w7 ⟨v', cs', fv', m', rfl, k1, k2, k3, k4, k5, k6⟩; obtain ⟨A6, n6, c6, rfl⟩ := k2.some_slice; obtain ⟨⟨u0, u1⟩, u2, u3, u4, u5⟩ := AFT.out _ _ _ _ _ (by first | exact below_drew (Below.refl _ _) | exact below_drew (below_drew (Below.refl _ _)) | exact below_drew ((Below.refl _ _).alloc (Nat.le_refl _) _) | exact (Below.refl _ _).alloc (Nat.le_refl _) _ | exact (below_drew (Below.refl _ _)).alloc (Nat.le_refl _) _ | exact below_drew ((below_drew (Below.refl _ _)).alloc (Nat.le_refl _) _) | exact below_drew (below_drew ((Below.refl _ _).alloc (Nat.le_refl _) _))) k1 k4; have K7 := Lib.hid (And.intro k1 (And.intro k2 (And.intro k3 k4))); (try (have BX4 : Blk w7 wr.heap.size 76 #[.int .i64 0, nilS] := KX.out _ _ (by first | exact below_drew (Below.refl _ _) | exact below_drew (below_drew (Below.refl _ _)) | exact below_drew ((Below.refl _ _).alloc (Nat.le_refl _) _) | exact (Below.refl _ _).alloc (Nat.le_refl _) _ | exact (below_drew (Below.refl _ _)).alloc (Nat.le_refl _) _ | exact below_drew ((below_drew (Below.refl _ _)).alloc (Nat.le_refl _) _) | exact below_drew (below_drew ((Below.refl _ _).alloc (Nat.le_refl _) _))) k4 BX.out; have t0 : w7.cell? ⟨wr.heap.size, 0, Option.none⟩ = some (.int .i64 0) := BX4.cell 0; have t1 : w7.cell? ⟨wr.heap.size, 1, Option.none⟩ = some nilS := BX4.cell 1; have tf := BX4.frozen; have HX4 := Lib.hid BX4; clear BX4)); clear k1 k2 k3 k4 k5 k6))
        all_goals
          first
          | (have tt := t0
             clear tt
             have R := Lib.hid (q11_set hP.out (by first | exact below_drew (Below.refl _ _) | exact below_drew (below_drew (Below.refl _ _)) | exact below_drew ((Below.refl _ _).alloc (Nat.le_refl _) _) | exact (Below.refl _ _).alloc (Nat.le_refl _) _ | exact (below_drew (Below.refl _ _)).alloc (Nat.le_refl _) _ | exact below_drew ((below_drew (Below.refl _ _)).alloc (Nat.le_refl _) _) | exact below_drew (below_drew ((Below.refl _ _).alloc (Nat.le_refl _) _))) HX4.out K7.out.1 K7.out.2.1 K7.out.2.2.1 K7.out.2.2.2)
             revert R
             generalize (w7.setCell ⟨wr.heap.size, 0, Option.none⟩ (.int .i64 L'.last)).setCell ⟨wr.heap.size, 1, Option.none⟩ (.slice A6 n6 c6) = w8
             generalize wr.heap.size = X
             intro R)
          | (have R := Lib.hid (q11_new hP.out (by first | exact below_drew (Below.refl _ _) | exact below_drew (below_drew (Below.refl _ _)) | exact below_drew ((Below.refl _ _).alloc (Nat.le_refl _) _) | exact (Below.refl _ _).alloc (Nat.le_refl _) _ | exact (below_drew (Below.refl _ _)).alloc (Nat.le_refl _) _ | exact below_drew ((below_drew (Below.refl _ _)).alloc (Nat.le_refl _) _) | exact below_drew (below_drew ((Below.refl _ _).alloc (Nat.le_refl _) _))) K7.out.1 K7.out.2.1 K7.out.2.2.1 K7.out.2.2.2)
             revert R
             generalize w7.heap.size = X
             generalize w7.alloc _ = w8
             intro R)
          (try (rename_i hH0; clear hH0))
          clear KD AFT BX KX nw1 nw2 nw3 nw4 K7 u0 u1 u2 u3 u4 u5 x0 x1 d0 d1 d2 d3
          try clear t0 t1 tf HX4
          obtain ⟨z0, z1, zf, y0, y1⟩ := q11_cells R.out
          go_upto_region 13 with fail
          have F := Lib.hid (q12 R.out)
          clear z0 z1 zf y0 y1 R
          revert F
          generalize (w8.setCell ⟨G, 0, Option.none⟩ (.int .i64 L'.last)).setCell ⟨G, 1, Option.none⟩ (.slice A6 n6 c6) = w9
          intro P9
          have x0 := P9.out.box.cell 0
          have x1 := P9.out.box.cell 1
          simp at x0 x1
          have KE := Lib.hid (equal_calls g mb fv' m' L' cs' (.slice A6 n6 c6) w w9 P9.out.st P9.out.row P9.out.ag (by have := HLn.out; omega))
          go_wp2_with fail
          refine KE.out.mono ?_
          rintro e w10 ⟨rfl, b10⟩
          have P10 := Lib.hid (P9.out.below b10)
          clear b10 x0 x1 KE P9
          go_wp2
          go_roundw
          case rel => exact ⟨i + 1, now, fv', m', L', cs', _, by go_num, by first | rfl | go_num, by omega, by omega, by omega, by omega, HLn, P10⟩
          case measure => first | (simp [intOf]; omega) | (simp [intOf]; done)
      · skip
        have HLn := Lib.hid (show (doR L ok onm oxs (now)).fates.length ≤ i + 1 from Nat.le_trans (doR_len L ok onm oxs (now)) (by have := hlen.out; omega))
        have KD := Lib.hid (fun (WX : World) (hW : Below wr.heap.size wr WX) => does_calls (hP.out.st.below hW) (hP.out.row.below hW) hP.out.ag (by have := hlen.out; omega) ok onm (now) odt (.slice oA oxs.length ocap) oxs OK.out.src OK.out.len OK.out.fit OK.out.k0)
        generalize doR L ok onm oxs (now) = L' at HLn KD
        go_upto_region 11 with fail
        go_region_held3 (fun W => W.cell? ⟨G, 0, Option.none⟩ = some (.int .i64 L.last) ∧ W.cell? ⟨G, 1, Option.none⟩ = some (.slice Av nv cv) ∧ W.cell? (oa.add (i * 4)) = some (.int .u8 ok) ∧ W.cell? ⟨oa.block, (oa.add (i * 4)).off + 1, Option.none⟩ = some (.int .i64 onm) ∧ W.cell? ⟨oa.block, (oa.add (i * 4)).off + 2, Option.none⟩ = some (.slice oA oxs.length ocap) ∧ W.cell? ⟨oa.block, (oa.add (i * 4)).off + 3, Option.none⟩ = some (.int .i64 odt)) (go_keep) ((go_at_call 35; refine (KD.out _ (by first | exact below_drew (Below.refl _ _) | exact below_drew (below_drew (Below.refl _ _)) | exact below_drew ((Below.refl _ _).alloc (Nat.le_refl _) _) | exact (Below.refl _ _).alloc (Nat.le_refl _) _ | exact (below_drew (Below.refl _ _)).alloc (Nat.le_refl _) _ | exact below_drew ((below_drew (Below.refl _ _)).alloc (Nat.le_refl _) _) | exact below_drew (below_drew ((Below.refl _ _).alloc (Nat.le_refl _) _)))).mono ?_; rintro e w7 ⟨v', cs', fv', m', rfl, k1, k2, k3, k4, k5, k6⟩; obtain ⟨A6, n6, c6, rfl⟩ := k2.some_slice; obtain ⟨⟨u0, u1⟩, u2, u3, u4, u5⟩ := AFT.out _ _ _ _ _ (by first | exact below_drew (Below.refl _ _) | exact below_drew (below_drew (Below.refl _ _)) | exact below_drew ((Below.refl _ _).alloc (Nat.le_refl _) _) | exact (Below.refl _ _).alloc (Nat.le_refl _) _ | exact (below_drew (Below.refl _ _)).alloc (Nat.le_refl _) _ | exact below_drew ((below_drew (Below.refl _ _)).alloc (Nat.le_refl _) _) | exact below_drew (below_drew ((Below.refl _ _).alloc (Nat.le_refl _) _))) k1 k4; have K7 := Lib.hid (And.intro k1 (And.intro k2 (And.intro k3 k4))); (try (have BX4 : Blk w7 wr.heap.size 76 #[.int .i64 0, nilS] := KX.out _ _ (by first | exact below_drew (Below.refl _ _) | exact below_drew (below_drew (Below.refl _ _)) | exact below_drew ((Below.refl _ _).alloc (Nat.le_refl _) _) | exact (Below.refl _ _).alloc (Nat.le_refl _) _ | exact (below_drew (Below.refl _ _)).alloc (Nat.le_refl _) _ | exact below_drew ((below_drew (Below.refl _ _)).alloc (Nat.le_refl _) _) | exact below_drew (below_drew ((Below.refl _ _).alloc (Nat.le_refl _) _))) k4 BX.out; have t0 : w7.cell? ⟨wr.heap.size, 0, Option.none⟩ = some (.int .i64 0) := BX4.cell 0; have t1 : w7.cell? ⟨wr.heap.size, 1, Option.none⟩ = some nilS := BX4.cell 1; have tf := BX4.frozen; have HX4 := Lib.hid BX4; clear BX4)); clear k1 k2 k3 k4 k5 k6))
        all_goals
          first
          | (have tt := t0
             clear tt
             have R := Lib.hid (q11_set hP.out (by first | exact below_drew (Below.refl _ _) | exact below_drew (below_drew (Below.refl _ _)) | exact below_drew ((Below.refl _ _).alloc (Nat.le_refl _) _) | exact (Below.refl _ _).alloc (Nat.le_refl _) _ | exact (below_drew (Below.refl _ _)).alloc (Nat.le_refl _) _ | exact below_drew ((below_drew (Below.refl _ _)).alloc (Nat.le_refl _) _) | exact below_drew (below_drew ((Below.refl _ _).alloc (Nat.le_refl _) _))) HX4.out K7.out.1 K7.out.2.1 K7.out.2.2.1 K7.out.2.2.2)
             revert R
             generalize (w7.setCell ⟨wr.heap.size, 0, Option.none⟩ (.int .i64 L'.last)).setCell ⟨wr.heap.size, 1, Option.none⟩ (.slice A6 n6 c6) = w8
             generalize wr.heap.size = X
             intro R)
          | (have R := Lib.hid (q11_new hP.out (by first | exact below_drew (Below.refl _ _) | exact below_drew (below_drew (Below.refl _ _)) | exact below_drew ((Below.refl _ _).alloc (Nat.le_refl _) _) | exact (Below.refl _ _).alloc (Nat.le_refl _) _ | exact (below_drew (Below.refl _ _)).alloc (Nat.le_refl _) _ | exact below_drew ((below_drew (Below.refl _ _)).alloc (Nat.le_refl _) _) | exact below_drew (below_drew ((Below.refl _ _).alloc (Nat.le_refl _) _))) K7.out.1 K7.out.2.1 K7.out.2.2.1 K7.out.2.2.2)
             revert R
             generalize w7.heap.size = X
             generalize w7.alloc _ = w8
             intro R)
          (try (rename_i hH0; clear hH0))
          clear KD AFT BX KX nw1 nw2 nw3 nw4 K7 u0 u1 u2 u3 u4 u5 x0 x1 d0 d1 d2 d3
          try clear t0 t1 tf HX4
          obtain ⟨z0, z1, zf, y0, y1⟩ := q11_cells R.out
          go_upto_region 13 with fail
          have F := Lib.hid (q12 R.out)
          clear z0 z1 zf y0 y1 R
          revert F
          generalize (w8.setCell ⟨G, 0, Option.none⟩ (.int .i64 L'.last)).setCell ⟨G, 1, Option.none⟩ (.slice A6 n6 c6) = w9
          intro P9
          have x0 := P9.out.box.cell 0
          have x1 := P9.out.box.cell 1
          simp at x0 x1
          have KE := Lib.hid (equal_calls g mb fv' m' L' cs' (.slice A6 n6 c6) w w9 P9.out.st P9.out.row P9.out.ag (by have := HLn.out; omega))
          go_wp2_with fail
          refine KE.out.mono ?_
          rintro e w10 ⟨rfl, b10⟩
          have P10 := Lib.hid (P9.out.below b10)
          clear b10 x0 x1 KE P9
          go_wp2
          go_roundw
          case rel => exact ⟨i + 1, now, fv', m', L', cs', _, by go_num, by first | rfl | go_num, by omega, by omega, by omega, by omega, HLn, P10⟩
          case measure => first | (simp [intOf]; omega) | (simp [intOf]; done)
      · skip
        have HLn := Lib.hid (show (doR L ok onm oxs (now + odt)).fates.length ≤ i + 1 from Nat.le_trans (doR_len L ok onm oxs (now + odt)) (by have := hlen.out; omega))
        have KD := Lib.hid (fun (WX : World) (hW : Below wr.heap.size wr WX) => does_calls (hP.out.st.below hW) (hP.out.row.below hW) hP.out.ag (by have := hlen.out; omega) ok onm (now + odt) odt (.slice oA oxs.length ocap) oxs OK.out.src OK.out.len OK.out.fit OK.out.k0)
        generalize doR L ok onm oxs (now + odt) = L' at HLn KD
        go_upto_region 11 with fail
        go_region_held3 (fun W => W.cell? ⟨G, 0, Option.none⟩ = some (.int .i64 L.last) ∧ W.cell? ⟨G, 1, Option.none⟩ = some (.slice Av nv cv) ∧ W.cell? (oa.add (i * 4)) = some (.int .u8 ok) ∧ W.cell? ⟨oa.block, (oa.add (i * 4)).off + 1, Option.none⟩ = some (.int .i64 onm) ∧ W.cell? ⟨oa.block, (oa.add (i * 4)).off + 2, Option.none⟩ = some (.slice oA oxs.length ocap) ∧ W.cell? ⟨oa.block, (oa.add (i * 4)).off + 3, Option.none⟩ = some (.int .i64 odt)) (go_keep) ((go_at_call 35; refine (KD.out _ (by first | exact below_drew (Below.refl _ _) | exact below_drew (below_drew (Below.refl _ _)) | exact below_drew ((Below.refl _ _).alloc (Nat.le_refl _) _) | exact (Below.refl _ _).alloc (Nat.le_refl _) _ | exact (below_drew (Below.refl _ _)).alloc (Nat.le_refl _) _ | exact below_drew ((below_drew (Below.refl _ _)).alloc (Nat.le_refl _) _) | exact below_drew (below_drew ((Below.refl _ _).alloc (Nat.le_refl _) _)))).mono ?_; rintro e w7 ⟨v', cs', fv', m', rfl, k1, k2, k3, k4, k5, k6⟩; obtain ⟨A6, n6, c6, rfl⟩ := k2.some_slice; obtain ⟨⟨u0, u1⟩, u2, u3, u4, u5⟩ := AFT.out _ _ _ _ _ (by first | exact below_drew (Below.refl _ _) | exact below_drew (below_drew (Below.refl _ _)) | exact below_drew ((Below.refl _ _).alloc (Nat.le_refl _) _) | exact (Below.refl _ _).alloc (Nat.le_refl _) _ | exact (below_drew (Below.refl _ _)).alloc (Nat.le_refl _) _ | exact below_drew ((below_drew (Below.refl _ _)).alloc (Nat.le_refl _) _) | exact below_drew (below_drew ((Below.refl _ _).alloc (Nat.le_refl _) _))) k1 k4; have K7 := Lib.hid (And.intro k1 (And.intro k2 (And.intro k3 k4))); (try (have BX4 : Blk w7 wr.heap.size 76 #[.int .i64 0, nilS] := KX.out _ _ (by first | exact below_drew (Below.refl _ _) | exact below_drew (below_drew (Below.refl _ _)) | exact below_drew ((Below.refl _ _).alloc (Nat.le_refl _) _) | exact (Below.refl _ _).alloc (Nat.le_refl _) _ | exact (below_drew (Below.refl _ _)).alloc (Nat.le_refl _) _ | exact below_drew ((below_drew (Below.refl _ _)).alloc (Nat.le_refl _) _) | exact below_drew (below_drew ((Below.refl _ _).alloc (Nat.le_refl _) _))) k4 BX.out; have t0 : w7.cell? ⟨wr.heap.size, 0, Option.none⟩ = some (.int .i64 0) := BX4.cell 0; have t1 : w7.cell? ⟨wr.heap.size, 1, Option.none⟩ = some nilS := BX4.cell 1; have tf := BX4.frozen; have HX4 := Lib.hid BX4; clear BX4)); clear k1 k2 k3 k4 k5 k6))
        all_goals
          first
          | (have tt := t0
             clear tt
             have R := Lib.hid (q11_set hP.out (by first | exact below_drew (Below.refl _ _) | exact below_drew (below_drew (Below.refl _ _)) | exact below_drew ((Below.refl _ _).alloc (Nat.le_refl _) _) | exact (Below.refl _ _).alloc (Nat.le_refl _) _ | exact (below_drew (Below.refl _ _)).alloc (Nat.le_refl _) _ | exact below_drew ((below_drew (Below.refl _ _)).alloc (Nat.le_refl _) _) | exact below_drew (below_drew ((Below.refl _ _).alloc (Nat.le_refl _) _))) HX4.out K7.out.1 K7.out.2.1 K7.out.2.2.1 K7.out.2.2.2)
             revert R
             generalize (w7.setCell ⟨wr.heap.size, 0, Option.none⟩ (.int .i64 L'.last)).setCell ⟨wr.heap.size, 1, Option.none⟩ (.slice A6 n6 c6) = w8
             generalize wr.heap.size = X
             intro R)
          | (have R := Lib.hid (q11_new hP.out (by first | exact below_drew (Below.refl _ _) | exact below_drew (below_drew (Below.refl _ _)) | exact below_drew ((Below.refl _ _).alloc (Nat.le_refl _) _) | exact (Below.refl _ _).alloc (Nat.le_refl _) _ | exact (below_drew (Below.refl _ _)).alloc (Nat.le_refl _) _ | exact below_drew ((below_drew (Below.refl _ _)).alloc (Nat.le_refl _) _) | exact below_drew (below_drew ((Below.refl _ _).alloc (Nat.le_refl _) _))) K7.out.1 K7.out.2.1 K7.out.2.2.1 K7.out.2.2.2)
             revert R
             generalize w7.heap.size = X
             generalize w7.alloc _ = w8
             intro R)
          (try (rename_i hH0; clear hH0))
          clear KD AFT BX KX nw1 nw2 nw3 nw4 K7 u0 u1 u2 u3 u4 u5 x0 x1 d0 d1 d2 d3
          try clear t0 t1 tf HX4
          obtain ⟨z0, z1, zf, y0, y1⟩ := q11_cells R.out
          go_upto_region 13 with fail
          have F := Lib.hid (q12 R.out)
          clear z0 z1 zf y0 y1 R
          revert F
          generalize (w8.setCell ⟨G, 0, Option.none⟩ (.int .i64 L'.last)).setCell ⟨G, 1, Option.none⟩ (.slice A6 n6 c6) = w9
          intro P9
          have x0 := P9.out.box.cell 0
          have x1 := P9.out.box.cell 1
          simp at x0 x1
          have KE := Lib.hid (equal_calls g mb fv' m' L' cs' (.slice A6 n6 c6) w w9 P9.out.st P9.out.row P9.out.ag (by have := HLn.out; omega))
          go_wp2_with fail
          refine KE.out.mono ?_
          rintro e w10 ⟨rfl, b10⟩
          have P10 := Lib.hid (P9.out.below b10)
          clear b10 x0 x1 KE P9
          go_wp2
          go_roundw
          case rel => exact ⟨i + 1, now + odt, fv', m', L', cs', _, by go_num, by first | rfl | go_num, by omega, by omega, by omega, by omega, HLn, P10⟩
          case measure => first | (simp [intOf]; omega) | (simp [intOf]; done)
    · rcases (by omega : ((i : Int) < (ops.length : Int) ∧ ¬ (i : Int) < 80) ∨ ¬ (i : Int) < (ops.length : Int)) with ⟨hi2, hi3⟩ | hi2
      all_goals
        have hi4 := hi2
        go_wp2_with fail
        refine (clone_calls g mb fv m L wr hP.out.st.d).mono ?_
        rintro e w4 ⟨g2, mb2, fv2, rfl, hd2, b2, n1, n2, n3⟩
        obtain ⟨Av, nv, cv, rfl⟩ := hP.out.row.some_slice
        have P4 := Lib.hid (hP.out.below b2)
        have S4 := Lib.hid (clone_st hP.out.st.bel hd2 b2 n1 n2 n3)
        have C4 := Lib.hid (fun (W3 : World) (k4 : Keeps w4 W3 g2 mb2 fv2) => hP.out.below (clone_keep b2 n1 n2 n3 k4))
        clear hd2 b2 n1 n2 n3
        have x0 := P4.out.box.cell 0
        have x1 := P4.out.box.cell 1
        have y0 := P4.out.ob.cell 0
        have y1 := P4.out.ob.cell 1
        have y2 := P4.out.ob.cell 2
        have y3 := P4.out.ob.cell 3
        simp at x0 x1 y0 y1 y2 y3
        have HLn := Lib.hid (show (doR L q.k q.id_ q.xs now).fates.length ≤ i + 1 from Nat.le_trans (doR_len L q.k q.id_ q.xs now) (by have := hlen.out; omega))
        have KD := Lib.hid (does_calls S4.out P4.out.row P4.out.ag (by have := hlen.out; omega) q.k q.id_ now q.dt (.slice q.A q.xs.length q.cap) q.xs HQ.out.src HQ.out.len HQ.out.fit HQ.out.k0)
        generalize doR L q.k q.id_ q.xs now = L' at HLn KD
        go_wp2_with fail
        refine KD.out.mono ?_
        rintro e w5 ⟨v', cs', fv', m', rfl, k1, k2, k3, k4, k5, k6⟩
        obtain ⟨A6, n6, c6, rfl⟩ := k2.some_slice
        have P5 := Lib.hid (C4.out w5 k4)
        have S5 := Lib.hid (And.intro k1 (And.intro k2 k3))
        clear x0 x1 y0 y1 y2 y3 KD C4 S4 P4 k1 k2 k3 k4 k5 k6
        go_upto_region 17 with fail
        have b6 : Below w5.heap.size w5 (w5.alloc (.cells #[.int .i64 L'.last, .slice A6 n6 c6] 76)) := (Below.refl _ w5).alloc (Nat.le_refl _) _
        have P6 := Lib.hid (P5.out.below b6)
        have S6 := Lib.hid (And.intro (S5.out.1.below b6) (And.intro (S5.out.2.1.below b6) S5.out.2.2))
        have Y6 := Lib.hid (Blk.new w5 76 #[.int .i64 L'.last, .slice A6 n6 c6])
        clear b6 P5 S5
        revert P6 S6 Y6
        generalize w5.alloc (.cells #[.int .i64 L'.last, .slice A6 n6 c6] 76) = w6
        generalize w5.heap.size = Y
        intro P6 S6 Y6
        have y0 := Y6.out.cell 0
        have y1 := Y6.out.cell 1
        simp at y0 y1
        have KE := Lib.hid (equal_calls g2 mb2 fv' m' L' cs' (.slice A6 n6 c6) w w6 S6.out.1 S6.out.2.1 S6.out.2.2 (by have := HLn.out; omega))
        go_wp2_with fail
        refine KE.out.mono ?_
        rintro e w7 ⟨rfl, b7⟩
        have P7 := Lib.hid (P6.out.below b7)
        clear y0 y1 KE P6 S6 Y6 b7
        have x0 := P7.out.box.cell 0
        have x1 := P7.out.box.cell 1
        simp at x0 x1
        have KE := Lib.hid (equal_calls g mb fv m L cs (.slice Av nv cv) w w7 P7.out.st P7.out.row P7.out.ag (by have := hlen.out; omega))
        go_wp2_with fail
        refine KE.out.mono ?_
        rintro e w8 ⟨rfl, b8⟩
        have P8 := Lib.hid (P7.out.below b8)
        clear x0 x1 KE P7 b8
        go_wp2_with fail
        refine (known_calls _).mono ?_
        rintro e w9 ⟨rfl, b9⟩
        have P9 := Lib.hid (P8.out.below b9)
        clear b9 P8
        go_wp2
        go_ret
        exact ⟨rfl, P9.out.st.bel⟩
end Go.Proofs.Ytiphkgkhfomcaaa.Duct
