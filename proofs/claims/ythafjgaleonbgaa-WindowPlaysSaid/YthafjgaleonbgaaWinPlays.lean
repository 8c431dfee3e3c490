/- The walk of WindowPlays. -/
import Derived.Test.YthafjgaleonbgaaWinRound
import Derived.BigQuiet
import Derived.Deep.DeepCutAuto
attribute [local go_sem ↓] Go.wp_at_zero Go.wp_at_succ
namespace Go.Proofs.Ythafjgaleonbgaa.Window
open Go.RowKit Go.OpenShut Go.Proofs.Ythafjgaleonbgaa.Aid
attribute [local go_sem] max_2 min_2 max2_i min2_i
theorem quiet_some {P : Program} {f : FuncId} {args : Array Value} {w : World} {n : Nat} {v : Value}
    (h : Calls P f args (w.drewN n) fun e w' => e = .returned v ∧ ∃ m, w' = (w.drewN n).drewN m) : Calls P f args (w.drewN n) fun e w'' => e = .returned v ∧ ∃ m, w'' = w.drewN m :=
  h.mono fun _ _ ⟨he, m, hm⟩ => ⟨he, n + m, by rw [hm, World.drewN_drewN]⟩
theorem quiet_left {P : Program} {f : FuncId} {args : Array Value} {w : World} {n : Nat} {v : Value}
    (h : Calls P f args (w.drewN n) fun e w' => e = .returned v ∧ w.drewN n = w') : Calls P f args (w.drewN n) fun e w'' => e = .returned v ∧ ∃ m, w'' = w.drewN m :=
  h.mono fun _ _ ⟨he, hm⟩ => ⟨he, n, hm.symm⟩
set_option maxRecDepth 100000 in
set_option maxHeartbeats 4000000 in
theorem plays_walk (m f t : Int) (A : Option Addr) (c : Nat) (ops : List Op) (w : World) (hn : ops.length ≤ maxLen)
    (hw : ∀ o ∈ ops, WfOp o) (hr : Reps w A 3 encOp ops) :
    Calls Try.prog 5 #[.int .i64 m, .int .i64 f, .int .i64 t, .slice A ops.length c] w (Yes w) := by
  unfold maxLen at hn
  have R := Lib.hid hr
  have HW := Lib.hid hw
  clear hr hw
  by_cases h0 : Right m f t
  · have h00 := h0
    obtain ⟨h1, h2, h3, h4, h5, h6⟩ := h0
    go_enter Try.func5, Try.ntmps5
    go_wp2_with fail
    refine (known_calls _).mono ?_
    rintro e w1 ⟨rfl, b1⟩
    go_wp2_with fail
    refine (new_ok _ _ _ _ h00).mono ?_
    rintro e w2 ⟨rfl, e2, b2, s2⟩
    have b3 := below_then b1 b1.size b2
    have hg := b1.size
    have E2 := Lib.hid e2
    generalize w1.heap.size = g at *
    clear e2 b1 b2
    go_wp2_with fail
    refine (right_good _ _ _ _ h00).mono ?_
    rintro e w3 ⟨rfl, rfl⟩
    go_wp2_with fail
    refine (ref_new _ _ _ _).mono ?_
    rintro e w3 ⟨rfl, b4⟩
    rw [show five ⟨m, t, f, t, 0⟩ = .agg #[.int .i64 m, .int .i64 t, .int .i64 f, .int .i64 t, .int .i64 0] from rfl]
    go_wp2_with fail
    obtain ⟨b, hb⟩ : ∃ b, b = w3.heap.size := ⟨_, rfl⟩
    have hgb : g < b := by rw [hb]; have := b4.size; omega
    have hwg : w.heap.size ≤ g := hg
    have x0 : Blk (w3.alloc (.cells #[.int .i64 m, .int .i64 t, .int .i64 f, .int .i64 t, .int .i64 0] 35)) b 35 (cells ⟨m, t, f, t, 0⟩) := by rw [hb]; exact Blk.new w3 _ _
    have e3 : IsWin (w3.alloc (.cells #[.int .i64 m, .int .i64 t, .int .i64 f, .int .i64 t, .int .i64 0] 35)) g ⟨m, t, f, t, 0⟩ := (E2.out.below b4 s2).alloc _
    have b5 : Below w.heap.size w (w3.alloc (.cells #[.int .i64 m, .int .i64 t, .int .i64 f, .int .i64 t, .int .i64 0] 35)) := (below_then b3 b3.size b4).alloc (by omega) _
    rw [← hb]
    have X0 := Lib.hid x0
    have E3 := Lib.hid e3
    have B5 := Lib.hid b5
    have o0 : Hid (Ok ⟨m, t, f, t, 0⟩) := Lib.hid (by simp only [Ok]; omega)
    clear x0 e3 b5 b4 b3 E2 hb
    go_loopw [12] (fun i wr => ∃ (k : Nat) (s : Win), k ≤ ops.length ∧ k ≤ 300 ∧ i = .int .i64 k ∧ Hid (IsWin wr g s) ∧ Hid (Blk wr b 35 (cells s)) ∧ Hid (Ok s) ∧ Hid (s.mss = m ∧ s.most = t) ∧ Hid (Below w.heap.size w wr)) (fun i _ => 300 - (intOf i).toNat)
    case atStart => exact ⟨0, _, by omega, by omega, rfl, E3, X0, o0, Lib.hid ⟨rfl, rfl⟩, B5⟩
    case round =>
      obtain ⟨k, s, hk, hk2, rfl, hE, hX, hO, hI, hB⟩ := hrel
      by_cases hlt : k < ops.length
      · by_cases hlt2 : k < 300
        · obtain ⟨op, hop⟩ : ∃ op, ops[k]? = some op := ⟨_, List.getElem?_eq_getElem hlt⟩
          have hop' := Lib.hid hop
          clear hop
          go_upto_region 12 with fail
          go_cut [13, 14] (fun sc sw wx => ∃ gc gw : Nat, sc = .pointer (some ⟨gc, 0, none⟩) ∧ sw = .pointer (some ⟨gw, 0, none⟩) ∧ Hid (Round w wx g b gc gw s))
          case first =>
            have hsz := Blk.lt hX.out
            have nb1 : b ≠ wr.heap.size := by omega
            have nb2 : wr.heap.size ≠ b := by omega
            have c0 : wr.cell? ⟨b, 0, none⟩ = some (.int .i64 s.mss) := hX.out.cell 0
            have c1 : wr.cell? ⟨b, 1, none⟩ = some (.int .i64 s.most) := hX.out.cell 1
            have c2 : wr.cell? ⟨b, 2, none⟩ = some (.int .i64 s.cwnd) := hX.out.cell 2
            have c3 : wr.cell? ⟨b, 3, none⟩ = some (.int .i64 s.thresh) := hX.out.cell 3
            have c4 : wr.cell? ⟨b, 4, none⟩ = some (.int .i64 s.count) := hX.out.cell 4
            go_region_held3 (fun w' => w'.cell? ⟨b, 0, none⟩ = some (.int .i64 s.mss) ∧ w'.cell? ⟨b, 1, none⟩ = some (.int .i64 s.most) ∧ w'.cell? ⟨b, 2, none⟩ = some (.int .i64 s.cwnd) ∧ w'.cell? ⟨b, 3, none⟩ = some (.int .i64 s.thresh) ∧ w'.cell? ⟨b, 4, none⟩ = some (.int .i64 s.count)) (go_keep) (first
              | (go_at_call 24
                 refine (clone_calls g s _ (Blk.drew hE.out)).mono ?_
                 rintro e w5 ⟨rfl, h5, g5, z5⟩
                 have Y5 := (Blk.drew hX.out).below g5 (by simp; exact hsz)
                 have d0 : w5.cell? ⟨b, 0, none⟩ = some (.int .i64 s.mss) := Y5.cell 0
                 have d1 : w5.cell? ⟨b, 1, none⟩ = some (.int .i64 s.most) := Y5.cell 1
                 have d2 : w5.cell? ⟨b, 2, none⟩ = some (.int .i64 s.cwnd) := Y5.cell 2
                 have d3 : w5.cell? ⟨b, 3, none⟩ = some (.int .i64 s.thresh) := Y5.cell 3
                 have d4 : w5.cell? ⟨b, 4, none⟩ = some (.int .i64 s.count) := Y5.cell 4)
              | (go_at_call 24
                 refine (clone_calls g s _ (Blk.drew (Blk.alloc hE.out _))).mono ?_
                 rintro e w5 ⟨rfl, h5, g5, z5⟩
                 have Y5 := (Blk.drew (Blk.alloc hX.out _)).below g5 (by simp; omega)
                 have d0 : w5.cell? ⟨b, 0, none⟩ = some (.int .i64 s.mss) := Y5.cell 0
                 have d1 : w5.cell? ⟨b, 1, none⟩ = some (.int .i64 s.most) := Y5.cell 1
                 have d2 : w5.cell? ⟨b, 2, none⟩ = some (.int .i64 s.cwnd) := Y5.cell 2
                 have d3 : w5.cell? ⟨b, 3, none⟩ = some (.int .i64 s.thresh) := Y5.cell 3
                 have d4 : w5.cell? ⟨b, 4, none⟩ = some (.int .i64 s.count) := Y5.cell 4
                 have Z5 : Blk w5 wr.heap.size 35 _ := (Blk.drew (Blk.new wr 35 #[.int .i64 0, .int .i64 0, .int .i64 0, .int .i64 0, .int .i64 0])).below g5 (by simp)
                 have fz := Z5.frozen
                 have q0 : w5.cell? ⟨wr.heap.size, 0, none⟩ = some (.int .i64 0) := Z5.cell 0
                 have q1 : w5.cell? ⟨wr.heap.size, 1, none⟩ = some (.int .i64 0) := Z5.cell 1
                 have q2 : w5.cell? ⟨wr.heap.size, 2, none⟩ = some (.int .i64 0) := Z5.cell 2
                 have q3 : w5.cell? ⟨wr.heap.size, 3, none⟩ = some (.int .i64 0) := Z5.cell 3
                 have q4 : w5.cell? ⟨wr.heap.size, 4, none⟩ = some (.int .i64 0) := Z5.cell 4))
            · have F := round_one hE.out hX.out hB.out g5 h5 z5 hgb hwg hsz
              go_wp2_with fail
              go_meet
              exact ⟨_, _, rfl, rfl, Lib.hid F⟩
            · have F := round_two rfl hE.out hX.out hB.out g5 h5 hgb hwg hsz
              go_wp2_with fail
              go_meet
              exact ⟨_, _, rfl, rfl, Lib.hid F⟩
          case rest =>
            obtain ⟨gc, gw, rfl, rfl, FF⟩ := hcut
            have hB' := Lib.hid FF.out.bel
            have hsz6 := FF.out.box.lt
            have n3 := FF.out.gb
            have n4 := FF.out.wb
            clear hE hX hB X0 E3 B5 o0
            obtain ⟨ad, rfl, hl, hc⟩ := (R.out.below hB'.out) k op hop'.out
            obtain ⟨z0, z1⟩ := HW.out op (List.mem_of_getElem? hop'.out)
            clear hc
            obtain ⟨z, x, y⟩ := op
            simp only at z0 z1
            obtain ⟨q, hq⟩ : ∃ q, q = act s z x y := ⟨_, rfl⟩
            have HQ := Lib.hid hq
            clear hq
            go_upto_region 13 with fail
            go_cut [15, 16] (fun sx so wx => ∃ gx : Nat, sx = .pointer (some ⟨gx, 0, none⟩) ∧ so = .bool true ∧ Hid (Round2 w wx g b gc gw gx s q))
            case first =>
              have nd0 : (ad.add (k * 3)).block = ad.block := by unfold Addr.add; split <;> rfl
              have nd1 : (ad.add (k * 3)).block ≠ wc.heap.size := by omega
              have nd2 : wc.heap.size ≠ (ad.add (k * 3)).block := by omega
              have nd3 : ∀ i, ad.add (k * 3) ≠ ⟨wc.heap.size, i, none⟩ := fun i c => nd1 (by rw [c])
              have nd4 : ∀ i, (⟨wc.heap.size, i, none⟩ : Addr) ≠ ad.add (k * 3) := fun i c => nd1 (by rw [← c])
              clear nd0
              obtain ⟨ad', eai, _, hci⟩ := (R.out.below hB'.out) k _ hop'.out
              cases eai
              have i0 : wc.cell? (ad.add (k * 3)) = some (.int .u8 z) := hci 0 _ rfl
              have i1 : wc.cell? ⟨(ad.add (k * 3)).block, (ad.add (k * 3)).off + 1, none⟩ = some (.int .i64 x) := (add_next ad (k * 3) 1 (by omega)) ▸ hci 1 _ rfl
              have i2 : wc.cell? ⟨(ad.add (k * 3)).block, (ad.add (k * 3)).off + 2, none⟩ = some (.int .i64 y) := (add_next ad (k * 3) 2 (by omega)) ▸ hci 2 _ rfl
              clear hci
              have e0 : wc.cell? ⟨b, 0, none⟩ = some (.int .i64 s.mss) := FF.out.box.cell 0
              have e1 : wc.cell? ⟨b, 1, none⟩ = some (.int .i64 s.most) := FF.out.box.cell 1
              have e2 : wc.cell? ⟨b, 2, none⟩ = some (.int .i64 s.cwnd) := FF.out.box.cell 2
              have e3 : wc.cell? ⟨b, 3, none⟩ = some (.int .i64 s.thresh) := FF.out.box.cell 3
              have e4 : wc.cell? ⟨b, 4, none⟩ = some (.int .i64 s.count) := FF.out.box.cell 4
              have nb3 : b ≠ wc.heap.size := by omega
              have nb4 : wc.heap.size ≠ b := by omega
              go_region_held3 (fun w' => w'.cell? ⟨b, 0, none⟩ = some (.int .i64 s.mss) ∧ w'.cell? ⟨b, 1, none⟩ = some (.int .i64 s.most) ∧ w'.cell? ⟨b, 2, none⟩ = some (.int .i64 s.cwnd) ∧ w'.cell? ⟨b, 3, none⟩ = some (.int .i64 s.thresh) ∧ w'.cell? ⟨b, 4, none⟩ = some (.int .i64 s.count) ∧ w'.cell? (ad.add (k * 3)) = some (.int .u8 z) ∧ w'.cell? ⟨(ad.add (k * 3)).block, (ad.add (k * 3)).off + 1, none⟩ = some (.int .i64 x) ∧ w'.cell? ⟨(ad.add (k * 3)).block, (ad.add (k * 3)).off + 2, none⟩ = some (.int .i64 y)) (go_keep) (first
                | (go_at_call 19
                   refine (does_same g s z x y _ (Blk.drew FF.out.ep) hO.out z0 z1).mono ?_
                   rintro e w6 ⟨rfl, h6, g6⟩
                   rw [← HQ.out] at h6
                   rw [← HQ.out]
                   rw [show five q = .agg #[.int .i64 q.mss, .int .i64 q.most, .int .i64 q.cwnd, .int .i64 q.thresh, .int .i64 q.count] from rfl]
                   have B6 := below_grown (below_drew hB'.out) hB'.out.size g6 n4
                   have Y6 := (Blk.drew FF.out.box).grown g6 (by simp; omega)
                   have f0 : w6.cell? ⟨b, 0, none⟩ = some (.int .i64 s.mss) := Y6.cell 0
                   have f1 : w6.cell? ⟨b, 1, none⟩ = some (.int .i64 s.most) := Y6.cell 1
                   have f2 : w6.cell? ⟨b, 2, none⟩ = some (.int .i64 s.cwnd) := Y6.cell 2
                   have f3 : w6.cell? ⟨b, 3, none⟩ = some (.int .i64 s.thresh) := Y6.cell 3
                   have f4 : w6.cell? ⟨b, 4, none⟩ = some (.int .i64 s.count) := Y6.cell 4
                   obtain ⟨ad', eaj, _, hcj⟩ := (R.out.below B6) k _ hop'.out
                   cases eaj
                   have j0 : w6.cell? (ad.add (k * 3)) = some (.int .u8 z) := hcj 0 _ rfl
                   have j1 : w6.cell? ⟨(ad.add (k * 3)).block, (ad.add (k * 3)).off + 1, none⟩ = some (.int .i64 x) := (add_next ad (k * 3) 1 (by omega)) ▸ hcj 1 _ rfl
                   have j2 : w6.cell? ⟨(ad.add (k * 3)).block, (ad.add (k * 3)).off + 2, none⟩ = some (.int .i64 y) := (add_next ad (k * 3) 2 (by omega)) ▸ hcj 2 _ rfl
                   clear hcj)
                | (go_at_call 19
                   refine (does_same g s z x y _ (Blk.drew (Blk.alloc FF.out.ep _)) hO.out z0 z1).mono ?_
                   rintro e w6 ⟨rfl, h6, g6⟩
                   rw [← HQ.out] at h6
                   rw [← HQ.out]
                   rw [show five q = .agg #[.int .i64 q.mss, .int .i64 q.most, .int .i64 q.cwnd, .int .i64 q.thresh, .int .i64 q.count] from rfl]
                   have B6 := below_grown (below_drew (hB'.out.alloc hB'.out.size _)) (by simp; have := hB'.out.size; omega) g6 n4
                   have Y6 := (Blk.drew (Blk.alloc FF.out.box _)).grown g6 (by simp; omega)
                   have f0 : w6.cell? ⟨b, 0, none⟩ = some (.int .i64 s.mss) := Y6.cell 0
                   have f1 : w6.cell? ⟨b, 1, none⟩ = some (.int .i64 s.most) := Y6.cell 1
                   have f2 : w6.cell? ⟨b, 2, none⟩ = some (.int .i64 s.cwnd) := Y6.cell 2
                   have f3 : w6.cell? ⟨b, 3, none⟩ = some (.int .i64 s.thresh) := Y6.cell 3
                   have f4 : w6.cell? ⟨b, 4, none⟩ = some (.int .i64 s.count) := Y6.cell 4
                   obtain ⟨ad', eaj, _, hcj⟩ := (R.out.below B6) k _ hop'.out
                   cases eaj
                   have j0 : w6.cell? (ad.add (k * 3)) = some (.int .u8 z) := hcj 0 _ rfl
                   have j1 : w6.cell? ⟨(ad.add (k * 3)).block, (ad.add (k * 3)).off + 1, none⟩ = some (.int .i64 x) := (add_next ad (k * 3) 1 (by omega)) ▸ hcj 1 _ rfl
                   have j2 : w6.cell? ⟨(ad.add (k * 3)).block, (ad.add (k * 3)).off + 2, none⟩ = some (.int .i64 y) := (add_next ad (k * 3) 2 (by omega)) ▸ hcj 2 _ rfl
                   clear hcj
                   have Z6 : Blk w6 wc.heap.size 35 _ := (Blk.drew (Blk.new wc 35 #[.int .i64 0, .int .i64 0, .int .i64 0, .int .i64 0, .int .i64 0])).grown g6 (by simp; omega)
                   have fz6 := Z6.frozen
                   have p0 : w6.cell? ⟨wc.heap.size, 0, none⟩ = some (.int .i64 0) := Z6.cell 0
                   have p1 : w6.cell? ⟨wc.heap.size, 1, none⟩ = some (.int .i64 0) := Z6.cell 1
                   have p2 : w6.cell? ⟨wc.heap.size, 2, none⟩ = some (.int .i64 0) := Z6.cell 2
                   have p3 : w6.cell? ⟨wc.heap.size, 3, none⟩ = some (.int .i64 0) := Z6.cell 3
                   have p4 : w6.cell? ⟨wc.heap.size, 4, none⟩ = some (.int .i64 0) := Z6.cell 4))
              · have G := round2_one FF.out h6 g6
                go_wp2_with fail
                go_meet
                exact ⟨_, rfl, rfl, Lib.hid G⟩
              · have G := round2_two rfl FF.out h6 g6
                go_wp2_with fail
                go_meet
                exact ⟨_, rfl, rfl, Lib.hid G⟩
            case rest =>
              have ak : Ok (act s z x y) ∧ (act s z x y).mss = m ∧ (act s z x y).most = t := ⟨act_ok s z x y hO.out, by rw [(act_keeps s z x y).1]; exact hI.out.1, by rw [(act_keeps s z x y).2]; exact hI.out.2⟩
              rw [← HQ.out] at ak
              have AK := Lib.hid ak
              clear ak
              clear FF
              obtain ⟨gx, rfl, rfl, GG⟩ := hcut
              have e0 : wc.cell? ⟨b, 0, none⟩ = some (.int .i64 s.mss) := GG.out.box.cell 0
              have e1 : wc.cell? ⟨b, 1, none⟩ = some (.int .i64 s.most) := GG.out.box.cell 1
              have e2 : wc.cell? ⟨b, 2, none⟩ = some (.int .i64 s.cwnd) := GG.out.box.cell 2
              have e3 : wc.cell? ⟨b, 3, none⟩ = some (.int .i64 s.thresh) := GG.out.box.cell 3
              have e4 : wc.cell? ⟨b, 4, none⟩ = some (.int .i64 s.count) := GG.out.box.cell 4
              have f0 : wc.cell? ⟨gx, 0, none⟩ = some (.int .i64 q.mss) := GG.out.bx.cell 0
              have f1 : wc.cell? ⟨gx, 1, none⟩ = some (.int .i64 q.most) := GG.out.bx.cell 1
              have f2 : wc.cell? ⟨gx, 2, none⟩ = some (.int .i64 q.cwnd) := GG.out.bx.cell 2
              have f3 : wc.cell? ⟨gx, 3, none⟩ = some (.int .i64 q.thresh) := GG.out.bx.cell 3
              have f4 : wc.cell? ⟨gx, 4, none⟩ = some (.int .i64 q.count) := GG.out.bx.cell 4
              have fb := GG.out.box.frozen
              have n6 := GG.out.n6
              go_wp2_with fail
              obtain ⟨W8, hW8⟩ : ∃ W8, W8 = put5 wc b q := ⟨_, rfl⟩
              have k1 : IsWin W8 g q := by rw [hW8]; exact put5_ep GG.out.ep (by have := GG.out.gb; omega) _
              have k2 : Blk W8 b 35 (cells q) := by rw [hW8]; exact put5_box GG.out.box _
              have k3 : IsWin W8 gc s := by rw [hW8]; exact put5_ep GG.out.cl GG.out.n2 _
              have k4 : Blk W8 gw 35 (cells s) := by rw [hW8]; exact put5_far GG.out.was GG.out.n4 _
              have k5 : Below w.heap.size w W8 := by rw [hW8]; exact put5_below GG.out.bel (by have := GG.out.gb; have := GG.out.wb; omega) _
              simp only [put5, set5] at hW8
              rw [← hW8]
              clear hW8 e0 e1 e2 e3 e4 f0 f1 f2 f3 f4 fb n6 GG
              have e0 : W8.cell? ⟨b, 0, none⟩ = some (.int .i64 q.mss) := k2.cell 0
              have e1 : W8.cell? ⟨b, 1, none⟩ = some (.int .i64 q.most) := k2.cell 1
              have e2 : W8.cell? ⟨b, 2, none⟩ = some (.int .i64 q.cwnd) := k2.cell 2
              have e3 : W8.cell? ⟨b, 3, none⟩ = some (.int .i64 q.thresh) := k2.cell 3
              have e4 : W8.cell? ⟨b, 4, none⟩ = some (.int .i64 q.count) := k2.cell 4
              have f0 : W8.cell? ⟨gw, 0, none⟩ = some (.int .i64 s.mss) := k4.cell 0
              have f1 : W8.cell? ⟨gw, 1, none⟩ = some (.int .i64 s.most) := k4.cell 1
              have f2 : W8.cell? ⟨gw, 2, none⟩ = some (.int .i64 s.cwnd) := k4.cell 2
              have f3 : W8.cell? ⟨gw, 3, none⟩ = some (.int .i64 s.thresh) := k4.cell 3
              have f4 : W8.cell? ⟨gw, 4, none⟩ = some (.int .i64 s.count) := k4.cell 4
              have K1 := Lib.hid k1
              have K2 := Lib.hid k2
              have K3 := Lib.hid k3
              have K4 := Lib.hid k4
              have K5 := Lib.hid k5
              clear k1 k2 k3 k4 k5
              obtain ⟨⟨qo1, qo2, qo3, qo4, qo5, qo6, qo7, qo8, qo9, qo10⟩, qm1, qm2⟩ := AK.out
              have g1 : m ≤ q.cwnd := by omega
              have g2 : q.cwnd ≤ t := by omega
              have g3 : q.thresh ≤ t := by omega
              clear qo1 qo2 qo3 qo4 qo5 qo6 qo8 qo9 qo10 qm1 qm2
              have SL := Lib.hid (fun n => quiet_some (isslow_calls g q _ (K1.out.drewN n)))
              go_quiet ((first | exact quiet_left (cwnd_calls g q _ (K1.out.drewN _)) | exact quiet_left (thresh_calls g q _ (K1.out.drewN _)) | exact SL.out _ | exact quiet_left (cwnd_calls gc s _ (K3.out.drewN _)) | exact quiet_left (thresh_calls gc s _ (K3.out.drewN _))))
              go_wp2_with (first | (go_at_call 18; refine (cwnd_calls g q _ (K1.out.drewN _)).mono ?_; rintro e w9 ⟨rfl, rfl⟩) | (go_at_call 20; refine (thresh_calls g q _ (K1.out.drewN _)).mono ?_; rintro e w9 ⟨rfl, rfl⟩))
              go_roundw
              case rel => exact ⟨k + 1, q, by omega, by omega, by go_num, Lib.hid (K1.out.drewN _), Lib.hid (K2.out.drewN _), Lib.hid AK.out.1, Lib.hid AK.out.2, Lib.hid (below_drewN K5.out _)⟩
              case measure => simp [intOf]; omega
        · go_wp2_with (first | (go_at_call 14; refine (known_calls _).mono ?_; rintro e w2 ⟨rfl, b2⟩))
          go_ret
          exact ⟨rfl, below_then hB.out hB.out.size b2⟩
      · go_wp2_with (first | (go_at_call 14; refine (known_calls _).mono ?_; rintro e w2 ⟨rfl, b2⟩))
        go_ret
        exact ⟨rfl, below_then hB.out hB.out.size b2⟩
  · go_enter Try.func5, Try.ntmps5
    go_wp2_with fail
    refine (known_calls _).mono ?_
    rintro e w1 ⟨rfl, b1⟩
    go_wp2_with fail
    refine (new_bad _ _ _ _ h0).mono ?_
    rintro e w2 ⟨rfl, rfl⟩
    go_wp2_with fail
    refine (right_bad _ _ _ _ h0).mono ?_
    rintro e w2 ⟨rfl, rfl⟩
    go_wp2_with fail
    refine (known_calls _).mono ?_
    rintro e w3 ⟨rfl, b3⟩
    go_wp2
    go_ret
    exact ⟨rfl, below_then b1 b1.size b3⟩
end Go.Proofs.Ythafjgaleonbgaa.Window
