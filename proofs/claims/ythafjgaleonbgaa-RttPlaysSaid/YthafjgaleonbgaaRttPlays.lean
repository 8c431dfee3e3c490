/- The walk of RttPlays: an estimate and the document's own, step by step. -/
import Derived.Test.YthafjgaleonbgaaRttEqual
attribute [local go_sem ↓] Go.wp_at_zero Go.wp_at_succ
namespace Go.Proofs.Ythafjgaleonbgaa.Rtt
open Go.RowKit Go.OpenShut Go.Proofs.Ythafjgaleonbgaa.Aid Go.BigFrame
attribute [local go_sem] max_2 min_2 max2_i min2_i
/-- Within a round: the estimate, the document's own in its box, the clone and what was. -/
structure Round (w W : World) (g b gc gw : Nat) (s : Est) : Prop where
  ep : IsEst W g s
  box : Blk W b 58 (rcells s)
  cl : IsEst W gc s
  was : Blk W gw 58 (rcells s)
  bel : Below w.heap.size w W
  n1 : gc ≠ g
  n2 : gc ≠ b
  n3 : gw ≠ g
  n4 : gw ≠ b
  gb : g < b
  wb : w.heap.size ≤ g
theorem round_one {w wr w5 : World} {g b : Nat} {s : Est} (hE : IsEst wr g s) (hX : Blk wr b 58 (rcells s)) (hB : Below w.heap.size w wr) (g5 : Below wr.heap.size wr.drew w5) (h5 : IsEst w5 wr.heap.size s)
    (z5 : w5.heap.size = wr.heap.size + 1) (hgb : g < b) (hwg : w.heap.size ≤ g) (hsz : b < wr.heap.size) :
    Round w (w5.alloc (.cells #[.int .i64 s.least, .int .i64 s.most, .int .i64 s.srtt, .int .i64 s.vary, .bool s.has, .int .i64 s.doubled] 58)) g b wr.heap.size (wr.heap.size + 1) s := by
  refine ⟨((Blk.drew hE).below g5 (by omega)).alloc _, ((Blk.drew hX).below g5 hsz).alloc _, Blk.alloc h5 _, ?_, ?_, by omega, by omega, by omega, by omega, hgb, hwg⟩
  · rw [← z5]
    exact Blk.new w5 _ _
  · exact (below_then (below_drew hB) hB.size g5).alloc (by omega) _
theorem round_two {w wr wa w5 : World} {g b : Nat} {s : Est} (hwa : wa = wr.alloc (.cells #[.int .i64 0, .int .i64 0, .int .i64 0, .int .i64 0, .bool false, .int .i64 0] 58)) (hE : IsEst wr g s) (hX : Blk wr b 58 (rcells s)) (hB : Below w.heap.size w wr)
    (g5 : Below wa.heap.size wa.drew w5) (h5 : IsEst w5 wa.heap.size s) (hgb : g < b) (hwg : w.heap.size ≤ g) (hsz : b < wr.heap.size) :
    Round w (set6 w5 wr.heap.size s) g b (wr.heap.size + 1) wr.heap.size s := by
  have e : wa.heap.size = wr.heap.size + 1 := by rw [hwa]; simp
  have a1 : Blk wa g 83 (cells s) := by rw [hwa]; exact Blk.alloc hE _
  have a2 : Blk wa b 58 (rcells s) := by rw [hwa]; exact Blk.alloc hX _
  have a3 : Blk wa wr.heap.size 58 (rcells r0) := by rw [hwa]; exact Blk.new wr _ _
  have a4 : Below w.heap.size w wa := by rw [hwa]; exact hB.alloc hB.size _
  rw [e] at h5
  refine ⟨set6_far ((Blk.drew a1).below g5 (by omega)) (by omega) _, set6_far ((Blk.drew a2).below g5 (by omega)) (by omega) _, set6_far h5 (by omega) _, set6_box ((Blk.drew a3).below g5 (by omega)) _, ?_, by omega, by omega, by omega, by omega, hgb, hwg⟩
  exact set6_below (below_then (below_drew a4) a4.size g5) hB.size _
/-- Behind what is done: the estimate and the document's own stand at q, the clone and what was at s. -/
structure After (w W : World) (g b gc gw : Nat) (s q : Est) : Prop where
  ep : IsEst W g q
  box : Blk W b 58 (rcells q)
  cl : IsEst W gc s
  was : Blk W gw 58 (rcells s)
  bel : Below w.heap.size w W
  n1 : gc ≠ g
  n3 : gw ≠ g
theorem Round.ep8 {w wc W7 : World} {g b gc gw : Nat} {s : Est} (F : Round w wc g b gc gw s) (b7 : Below wc.heap.size wc W7) (q : Est) : IsEst (set6 W7 b q) g s :=
  set6_far (F.ep.below b7 F.ep.lt) (by have := F.gb; omega) q
theorem Round.after {w wc W7 w9 : World} {g b gc gw : Nat} {s q : Est} (F : Round w wc g b gc gw s) (b7 : Below wc.heap.size wc W7) (h9 : IsEst w9 g q) (g9 : (set6 W7 b q).grownBy w9 (some g)) : After w w9 g b gc gw s q := by
  obtain ⟨f1, f2, f3, f4, f5, n1, n2, n3, n4, n5, n6⟩ := F
  refine ⟨h9, (set6_box (f2.below b7 f2.lt) q).grown g9 (by simp; omega), (set6_far (Blk.below f3 b7 f3.lt) n2 q).grown g9 (by simp; omega), (set6_far (f4.below b7 f4.lt) n4 q).grown g9 (by simp; omega), ?_, n1, n3⟩
  have hb : Below w.heap.size w W7 := below_then f5 f5.size b7
  have hs := set6_below (b := b) hb (by omega) q
  exact below_grown hs hs.size g9 n6
theorem Round.stay {w wc w9 : World} {g b gc gw : Nat} {s : Est} (F : Round w wc g b gc gw s) (h9 : IsEst w9 g s) (g9 : wc.grownBy w9 (some g)) : After w w9 g b gc gw s s := by
  obtain ⟨f1, f2, f3, f4, f5, n1, n2, n3, n4, n5, n6⟩ := F
  exact ⟨h9, f2.grown g9 (by simp; omega), Blk.grown f3 g9 (by simp; omega), f4.grown g9 (by simp; omega), below_grown f5 f5.size g9 n6, n1, n3⟩
theorem After.next {w W W' : World} {g b gc gw : Nat} {s q : Est} (F : After w W g b gc gw s q) (h : Below W.heap.size W W') : After w W' g b gc gw s q :=
  ⟨Blk.below F.ep h (Blk.lt F.ep), F.box.below h F.box.lt, Blk.below F.cl h (Blk.lt F.cl), F.was.below h F.was.lt, below_then F.bel F.bel.size h, F.n1, F.n3⟩
theorem new_drew {w : World} {t : TypeId} {cs : Array Value} : Blk (w.alloc (.cells cs t)).drew w.heap.size t cs := Blk.new w t cs
theorem backoff_ok {s : Est} (h : Ok s) (k : Int) (hd : s.doubled ≤ k) (hk : k < 1000) : Ok (backoff s).1 ∧ (backoff s).1.doubled ≤ k + 1 := by
  obtain ⟨o1, o2, o3, o4, o5, o6, o7, o8, o9⟩ := h
  unfold backoff
  split
  · exact ⟨⟨o1, o2, o3, o4, o5, o6, o7, o8, o9⟩, by simp only; omega⟩
  · exact ⟨⟨o1, o2, o3, o4, o5, o6, o7, by simp only; omega, by simp only; omega⟩, by simp only; omega⟩
theorem sample_ok {s : Est} {r : Int} (h : Ok s) (h0 : 0 ≤ r) (h1 : r ≤ 68719476736) : Ok (sample s r).1 ∧ (sample s r).1.doubled ≤ 0 ∧ (sample s r).2 = 0 := by
  obtain ⟨o1, o2, o3, o4, o5, o6, o7, o8, o9⟩ := h
  rw [sample, if_neg (by omega)]
  split
  · refine ⟨⟨o1, o2, o3, h0, h1, ?_, ?_, ?_, ?_⟩, ?_, rfl⟩ <;> simp only <;> omega
  · refine ⟨⟨o1, o2, o3, ?_, ?_, ?_, ?_, ?_, ?_⟩, ?_, rfl⟩ <;> simp only <;> omega
theorem right_bad (m f : Int) (w : World) (h : m < 1 ∨ f > 68719476736 ∨ m > f) : Calls Try.prog 36 #[.int .i64 m, .int .i64 f] w fun e w' => e = .returned (.bool false) ∧ w = w' := by
  have hc : m < 1 ∨ (¬ m < 1 ∧ f > 68719476736) ∨ (¬ m < 1 ∧ ¬ f > 68719476736 ∧ m > f) := by omega
  clear h
  rcases hc with h1 | ⟨h1, h2⟩ | ⟨h1, h2, h3⟩
  all_goals
    go_enter Try.func36, Try.ntmps36
    go_wp2
    go_ret
    first | exact ⟨rfl, rfl⟩ | exact ⟨by simp; omega, rfl⟩
theorem right_good (m f : Int) (w : World) (h1 : ¬ m < 1) (h2 : ¬ f > 68719476736) (h3 : ¬ m > f) : Calls Try.prog 36 #[.int .i64 m, .int .i64 f] w fun e w' => e = .returned (.bool true) ∧ w = w' := by
  go_enter Try.func36, Try.ntmps36
  go_wp2
  go_ret
  first | exact ⟨rfl, rfl⟩ | exact ⟨by simp; omega, rfl⟩
set_option maxRecDepth 100000 in
set_option maxHeartbeats 4000000 in
theorem plays_walk (least most : Int) (A : Option Addr) (c : Nat) (ops : List Op) (w : World) (hn : ops.length ≤ maxLen)
    (hw : ∀ o ∈ ops, -9223372036854775808 ≤ o.r ∧ o.r ≤ 9223372036854775807) (hr : Reps w A 2 encOp ops) :
    Calls Try.prog 9 #[.int .i64 least, .int .i64 most, .slice A ops.length c] w (Yes w) := by
  unfold maxLen at hn
  have R := Lib.hid hr
  have HW := Lib.hid hw
  clear hr hw
  by_cases h0 : least < 1 ∨ most > 68719476736 ∨ least > most
  · go_enter Try.func9, Try.ntmps9
    go_wp2_with fail
    refine (known_calls _).mono ?_
    rintro e w1 ⟨rfl, b1⟩
    go_wp2_with fail
    refine (new_bad _ _ _ h0).mono ?_
    rintro e w2 ⟨rfl, rfl⟩
    go_wp2_with fail
    refine (right_bad _ _ _ h0).mono ?_
    rintro e w2 ⟨rfl, rfl⟩
    go_wp2_with (first | (go_at_call 28; refine (known_calls _).mono ?_; rintro e w2 ⟨rfl, b2⟩))
    go_ret
    exact ⟨rfl, below_then b1 b1.size b2⟩
  · have h1 : ¬ least < 1 := by omega
    have h2 : ¬ most > 68719476736 := by omega
    have h3 : ¬ least > most := by omega
    clear h0
    go_enter Try.func9, Try.ntmps9
    go_wp2_with fail
    refine (known_calls _).mono ?_
    rintro e w1 ⟨rfl, b1⟩
    go_wp2_with fail
    refine (new_ok _ _ _ (by omega) (by omega) (by omega)).mono ?_
    rintro e w2 ⟨rfl, e2, b2, s2⟩
    have E2 := Lib.hid e2
    have b3 := below_then b1 b1.size b2
    have hg := b1.size
    generalize w1.heap.size = g at *
    clear e2 b1 b2 w1
    go_wp2_with fail
    refine (right_good _ _ _ (by omega) (by omega) (by omega)).mono ?_
    rintro e w3 ⟨rfl, rfl⟩
    go_wp2_with fail
    have hsz0 := s2
    obtain ⟨b, hb⟩ : ∃ b, b = w2.heap.size := ⟨_, rfl⟩
    have hgb : g < b := by rw [hb]; exact s2
    have x0 : Blk (w2.alloc (.cells #[.int .i64 least, .int .i64 most, .int .i64 0, .int .i64 0, .bool false, .int .i64 0] 58)) b 58 (rcells ⟨least, most, 0, 0, false, 0, 0⟩) := by rw [hb]; exact Blk.new _ _ _
    have e3 : IsEst (w2.alloc (.cells #[.int .i64 least, .int .i64 most, .int .i64 0, .int .i64 0, .bool false, .int .i64 0] 58)) g ⟨least, most, 0, 0, false, 0, 0⟩ := Blk.alloc E2.out _
    have b5 : Below w.heap.size w (w2.alloc (.cells #[.int .i64 least, .int .i64 most, .int .i64 0, .int .i64 0, .bool false, .int .i64 0] 58)) := b3.alloc b3.size _
    rw [← hb]
    have X0 := Lib.hid x0
    have E3 := Lib.hid e3
    have B5 := Lib.hid b5
    have O0 : Hid (Ok ⟨least, most, 0, 0, false, 0, 0⟩) := Lib.hid (by simp only [Ok]; omega)
    have D0 : Hid ((⟨least, most, 0, 0, false, 0, 0⟩ : Est).doubled ≤ ((0 : Nat) : Int)) := Lib.hid (by simp)
    clear x0 e3 b5 b3 E2 hb s2 hsz0
    go_loopw [10] (fun i wr => ∃ (k : Nat) (s : Est), k ≤ ops.length ∧ k ≤ 300 ∧ i = .int .i64 k ∧ Hid (IsEst wr g s) ∧ Hid (Blk wr b 58 (rcells s)) ∧ Hid (Ok s) ∧ Hid (s.doubled ≤ (k : Int)) ∧ Hid (Below w.heap.size w wr)) (fun i _ => 300 - (intOf i).toNat)
    case atStart => exact ⟨0, _, by omega, by omega, rfl, E3, X0, O0, D0, B5⟩
    case round =>
      obtain ⟨k, s, hk, hk2, rfl, hE, hX, hO, hD, hB⟩ := hrel
      by_cases hlt : k < ops.length
      · by_cases hlt2 : k < 300
        · obtain ⟨op, hop⟩ : ∃ op, ops[k]? = some op := ⟨_, List.getElem?_eq_getElem hlt⟩
          have hop' := Lib.hid hop
          clear hop
          go_upto_region 12 with fail
          go_cut [11, 12] (fun sc sw wx => ∃ gc gw : Nat, sc = .pointer (some ⟨gc, 0, none⟩) ∧ sw = .pointer (some ⟨gw, 0, none⟩) ∧ Hid (Round w wx g b gc gw s))
          case first =>
            have hsz := Blk.lt hX.out
            have nb1 : b ≠ wr.heap.size := by omega
            have nb2 : wr.heap.size ≠ b := by omega
            have c0 : wr.cell? ⟨b, 0, none⟩ = some (.int .i64 s.least) := hX.out.cell 0
            have c1 : wr.cell? ⟨b, 1, none⟩ = some (.int .i64 s.most) := hX.out.cell 1
            have c2 : wr.cell? ⟨b, 2, none⟩ = some (.int .i64 s.srtt) := hX.out.cell 2
            have c3 : wr.cell? ⟨b, 3, none⟩ = some (.int .i64 s.vary) := hX.out.cell 3
            have c4 : wr.cell? ⟨b, 4, none⟩ = some (.bool s.has) := hX.out.cell 4
            have c5 : wr.cell? ⟨b, 5, none⟩ = some (.int .i64 s.doubled) := hX.out.cell 5
            go_region_held3 (fun w' => w'.cell? ⟨b, 0, none⟩ = some (.int .i64 s.least) ∧ w'.cell? ⟨b, 1, none⟩ = some (.int .i64 s.most) ∧ w'.cell? ⟨b, 2, none⟩ = some (.int .i64 s.srtt) ∧ w'.cell? ⟨b, 3, none⟩ = some (.int .i64 s.vary) ∧ w'.cell? ⟨b, 4, none⟩ = some (.bool s.has) ∧ w'.cell? ⟨b, 5, none⟩ = some (.int .i64 s.doubled)) (go_keep) (first
              | (go_at_call 37
                 refine (clone_calls g s _ (Blk.drew hE.out)).mono ?_
                 rintro e w5 ⟨rfl, h5, g5, z5⟩
                 have Y5 := (Blk.drew hX.out).below g5 (by simp; exact hsz)
                 have d0 : w5.cell? ⟨b, 0, none⟩ = some (.int .i64 s.least) := Y5.cell 0
                 have d1 : w5.cell? ⟨b, 1, none⟩ = some (.int .i64 s.most) := Y5.cell 1
                 have d2 : w5.cell? ⟨b, 2, none⟩ = some (.int .i64 s.srtt) := Y5.cell 2
                 have d3 : w5.cell? ⟨b, 3, none⟩ = some (.int .i64 s.vary) := Y5.cell 3
                 have d4 : w5.cell? ⟨b, 4, none⟩ = some (.bool s.has) := Y5.cell 4
                 have d5 : w5.cell? ⟨b, 5, none⟩ = some (.int .i64 s.doubled) := Y5.cell 5
                 )
              | (go_at_call 37
                 refine (clone_calls g s _ (Blk.drew (Blk.alloc hE.out _))).mono ?_
                 rintro e w5 ⟨rfl, h5, g5, z5⟩
                 have Y5 := (Blk.drew (Blk.alloc hX.out _)).below g5 (by simp; omega)
                 have d0 : w5.cell? ⟨b, 0, none⟩ = some (.int .i64 s.least) := Y5.cell 0
                 have d1 : w5.cell? ⟨b, 1, none⟩ = some (.int .i64 s.most) := Y5.cell 1
                 have d2 : w5.cell? ⟨b, 2, none⟩ = some (.int .i64 s.srtt) := Y5.cell 2
                 have d3 : w5.cell? ⟨b, 3, none⟩ = some (.int .i64 s.vary) := Y5.cell 3
                 have d4 : w5.cell? ⟨b, 4, none⟩ = some (.bool s.has) := Y5.cell 4
                 have d5 : w5.cell? ⟨b, 5, none⟩ = some (.int .i64 s.doubled) := Y5.cell 5
                 have Z5 : Blk w5 wr.heap.size 58 _ := (Blk.drew (Blk.new wr 58 #[.int .i64 0, .int .i64 0, .int .i64 0, .int .i64 0, .bool false, .int .i64 0])).below g5 (by simp)
                 have fz := Z5.frozen
                 have q0 : w5.cell? ⟨wr.heap.size, 0, none⟩ = some (.int .i64 0) := Z5.cell 0
                 have q1 : w5.cell? ⟨wr.heap.size, 1, none⟩ = some (.int .i64 0) := Z5.cell 1
                 have q2 : w5.cell? ⟨wr.heap.size, 2, none⟩ = some (.int .i64 0) := Z5.cell 2
                 have q3 : w5.cell? ⟨wr.heap.size, 3, none⟩ = some (.int .i64 0) := Z5.cell 3
                 have q4 : w5.cell? ⟨wr.heap.size, 4, none⟩ = some (.bool false) := Z5.cell 4
                 have q5 : w5.cell? ⟨wr.heap.size, 5, none⟩ = some (.int .i64 0) := Z5.cell 5
                 ))
            · have F := round_one hE.out hX.out hB.out g5 h5 z5 hgb hg hsz
              go_wp2_with fail
              go_meet
              exact ⟨_, _, rfl, rfl, Lib.hid F⟩
            · have F := round_two rfl hE.out hX.out hB.out g5 h5 hgb hg hsz
              go_wp2_with fail
              go_meet
              exact ⟨_, _, rfl, rfl, Lib.hid F⟩
          case rest =>
            obtain ⟨gc, gw, rfl, rfl, F⟩ := hcut
            obtain ⟨ad, rfl, hl, hc⟩ := (R.out.below F.out.bel) k op hop'.out
            have hb := HW.out op (List.mem_of_getElem? hop'.out)
            have c0 : wc.cell? (ad.add (k * 2)) = some (.bool op.back) := hc 0 _ rfl
            have c1 : wc.cell? ⟨(ad.add (k * 2)).block, (ad.add (k * 2)).off + 1, none⟩ = some (.int .i64 op.r) := (add_next ad (k * 2) 1 (by omega)) ▸ hc 1 _ rfl
            clear hc hE hX hB X0 E3 B5 O0 D0
            obtain ⟨back, r⟩ := op
            simp only at hb c0 c1
            cases back with
            | true =>
              have e0 : wc.cell? ⟨b, 0, none⟩ = some (.int .i64 s.least) := F.out.box.cell 0
              have e1 : wc.cell? ⟨b, 1, none⟩ = some (.int .i64 s.most) := F.out.box.cell 1
              have e2 : wc.cell? ⟨b, 2, none⟩ = some (.int .i64 s.srtt) := F.out.box.cell 2
              have e3 : wc.cell? ⟨b, 3, none⟩ = some (.int .i64 s.vary) := F.out.box.cell 3
              have e4 : wc.cell? ⟨b, 4, none⟩ = some (.bool s.has) := F.out.box.cell 4
              have e5 : wc.cell? ⟨b, 5, none⟩ = some (.int .i64 s.doubled) := F.out.box.cell 5
              go_wp2_with fail
              refine (ref_backoff s _ hO.out).mono ?_
              rintro e w6 ⟨rfl, b6⟩
              have hbk := backoff_ok hO.out k hD.out (by omega)
              obtain ⟨q, hq⟩ : ∃ q, q = (backoff s).1 := ⟨_, rfl⟩
              obtain ⟨ok, hok⟩ : ∃ ok, ok = (backoff s).2 := ⟨_, rfl⟩
              rw [← hq] at hbk
              rw [← hq, ← hok]
              rw [show six q = .agg #[.int .i64 q.least, .int .i64 q.most, .int .i64 q.srtt, .int .i64 q.vary, .bool q.has, .int .i64 q.doubled] from rfl]
              have HQ := Lib.hid hq
              have HOK := Lib.hid hok
              have HBK := Lib.hid hbk
              clear hq hok hbk e0 e1 e2 e3 e4 e5
              have X6 := F.out.box.below b6 F.out.box.lt
              have fb := X6.frozen
              have hsz := X6.lt
              have nb1 : b ≠ w6.heap.size := by omega
              have nb2 : w6.heap.size ≠ b := by omega
              have e0 : w6.cell? ⟨b, 0, none⟩ = some (.int .i64 s.least) := X6.cell 0
              have e1 : w6.cell? ⟨b, 1, none⟩ = some (.int .i64 s.most) := X6.cell 1
              have e2 : w6.cell? ⟨b, 2, none⟩ = some (.int .i64 s.srtt) := X6.cell 2
              have e3 : w6.cell? ⟨b, 3, none⟩ = some (.int .i64 s.vary) := X6.cell 3
              have e4 : w6.cell? ⟨b, 4, none⟩ = some (.bool s.has) := X6.cell 4
              have e5 : w6.cell? ⟨b, 5, none⟩ = some (.int .i64 s.doubled) := X6.cell 5
              have B7 := Lib.hid b6
              clear b6 X6 c0 c1
              go_wp2_with fail
              obtain ⟨W8, hW8⟩ : ∃ W8, W8 = (set6 w6 b q).alloc (.cells #[.int .i64 q.least, .int .i64 q.most, .int .i64 q.srtt, .int .i64 q.vary, .bool q.has, .int .i64 q.doubled] 58) := ⟨_, rfl⟩
              have h8 : IsEst W8 g s := by rw [hW8]; exact Blk.alloc (F.out.ep8 B7.out q) _
              have HW8 := Lib.hid hW8
              rw [set6] at hW8
              rw [← hW8]
              clear hW8 e0 e1 e2 e3 e4 e5 fb nb1 nb2
              refine (backoff_calls g s _ h8 hO.out).mono ?_
              rintro e w9 ⟨rfl, h9, g9⟩
              rw [← HQ.out] at h9
              rw [← HOK.out]
              have G : After w w9 g b gc gw s q := by rw [HW8.out] at g9; exact F.out.after B7.out h9 (grown_trans (grown_alloc (grown_refl _ _) _) g9)
              clear h8 h9 g9
              have G9 := Lib.hid G
              clear G
              have j0 : w9.cell? ⟨b, 0, none⟩ = some (.int .i64 q.least) := G9.out.box.cell 0
              have j1 : w9.cell? ⟨b, 1, none⟩ = some (.int .i64 q.most) := G9.out.box.cell 1
              have j2 : w9.cell? ⟨b, 2, none⟩ = some (.int .i64 q.srtt) := G9.out.box.cell 2
              have j3 : w9.cell? ⟨b, 3, none⟩ = some (.int .i64 q.vary) := G9.out.box.cell 3
              have j4 : w9.cell? ⟨b, 4, none⟩ = some (.bool q.has) := G9.out.box.cell 4
              have j5 : w9.cell? ⟨b, 5, none⟩ = some (.int .i64 q.doubled) := G9.out.box.cell 5
              go_wp2_with fail
              refine (equal_calls g q _ G9.out.ep HBK.out.1).mono ?_
              rintro e w10 ⟨rfl, b10⟩
              have G10 := Lib.hid (G9.out.next b10)
              clear b10 j0 j1 j2 j3 j4 j5
              have j0 : w10.cell? ⟨gw, 0, none⟩ = some (.int .i64 s.least) := G10.out.was.cell 0
              have j1 : w10.cell? ⟨gw, 1, none⟩ = some (.int .i64 s.most) := G10.out.was.cell 1
              have j2 : w10.cell? ⟨gw, 2, none⟩ = some (.int .i64 s.srtt) := G10.out.was.cell 2
              have j3 : w10.cell? ⟨gw, 3, none⟩ = some (.int .i64 s.vary) := G10.out.was.cell 3
              have j4 : w10.cell? ⟨gw, 4, none⟩ = some (.bool s.has) := G10.out.was.cell 4
              have j5 : w10.cell? ⟨gw, 5, none⟩ = some (.int .i64 s.doubled) := G10.out.was.cell 5
              go_wp2_with fail
              refine (equal_calls gc s _ G10.out.cl hO.out).mono ?_
              rintro e w11 ⟨rfl, b11⟩
              have G11 := Lib.hid (G10.out.next b11)
              clear b11 j0 j1 j2 j3 j4 j5
              go_wp2
              go_roundw
              case rel => exact ⟨k + 1, q, by omega, by omega, by go_num, Lib.hid G11.out.ep, Lib.hid G11.out.box, Lib.hid HBK.out.1, Lib.hid (by have := HBK.out.2; push_cast; omega), Lib.hid G11.out.bel⟩
              case measure => simp [intOf]; omega
            | false =>
              by_cases hr0 : r < 0 ∨ r > 68719476736
              · have a4 : sample s r = (s, 3) := by rw [sample, if_pos hr0]
                have hcs : r < 0 ∨ (¬ r < 0 ∧ r > 68719476736) := by omega
                rcases hcs with hr1 | ⟨hr1, hr2⟩
                all_goals
                  go_wp2_with fail
                  refine (sample_calls g s r _ F.out.ep hO.out).mono ?_
                  rintro e w9 ⟨rfl, h9, g9⟩
                  rw [a4] at h9
                  rw [a4]
                  have G : After w w9 g b gc gw s s := F.out.stay h9 g9
                  clear h9 g9
                  obtain ⟨q, hq⟩ : ∃ q, q = s := ⟨_, rfl⟩
                  have G : After w w9 g b gc gw s q := by rw [hq]; exact G
                  have HO := hO.out
                  have HD := hD.out
                  rw [← hq] at HO HD
                  have HO' := Lib.hid HO
                  have HD' := Lib.hid HD
                  clear hq HO HD
                  have G9 := Lib.hid G
                  clear G
                  have j0 : w9.cell? ⟨b, 0, none⟩ = some (.int .i64 q.least) := G9.out.box.cell 0
                  have j1 : w9.cell? ⟨b, 1, none⟩ = some (.int .i64 q.most) := G9.out.box.cell 1
                  have j2 : w9.cell? ⟨b, 2, none⟩ = some (.int .i64 q.srtt) := G9.out.box.cell 2
                  have j3 : w9.cell? ⟨b, 3, none⟩ = some (.int .i64 q.vary) := G9.out.box.cell 3
                  have j4 : w9.cell? ⟨b, 4, none⟩ = some (.bool q.has) := G9.out.box.cell 4
                  have j5 : w9.cell? ⟨b, 5, none⟩ = some (.int .i64 q.doubled) := G9.out.box.cell 5
                  go_wp2_with fail
                  refine (equal_calls g q _ G9.out.ep HO'.out).mono ?_
                  rintro e w10 ⟨rfl, b10⟩
                  have G10 := Lib.hid (G9.out.next b10)
                  clear b10 j0 j1 j2 j3 j4 j5
                  have j0 : w10.cell? ⟨gw, 0, none⟩ = some (.int .i64 s.least) := G10.out.was.cell 0
                  have j1 : w10.cell? ⟨gw, 1, none⟩ = some (.int .i64 s.most) := G10.out.was.cell 1
                  have j2 : w10.cell? ⟨gw, 2, none⟩ = some (.int .i64 s.srtt) := G10.out.was.cell 2
                  have j3 : w10.cell? ⟨gw, 3, none⟩ = some (.int .i64 s.vary) := G10.out.was.cell 3
                  have j4 : w10.cell? ⟨gw, 4, none⟩ = some (.bool s.has) := G10.out.was.cell 4
                  have j5 : w10.cell? ⟨gw, 5, none⟩ = some (.int .i64 s.doubled) := G10.out.was.cell 5
                  go_wp2_with fail
                  refine (equal_calls gc s _ G10.out.cl hO.out).mono ?_
                  rintro e w11 ⟨rfl, b11⟩
                  have G11 := Lib.hid (G10.out.next b11)
                  clear b11 j0 j1 j2 j3 j4 j5
                  go_wp2
                  go_roundw
                  case rel => exact ⟨k + 1, q, by omega, by omega, by go_num, Lib.hid G11.out.ep, Lib.hid G11.out.box, Lib.hid HO'.out, Lib.hid (by have := HD'.out; push_cast; omega), Lib.hid G11.out.bel⟩
                  case measure => simp [intOf]; omega
              · have r1 : ¬ r < 0 := by omega
                have r2 : ¬ r > 68719476736 := by omega
                clear hr0
                have hbk := sample_ok hO.out (show 0 ≤ r by omega) (show r ≤ 68719476736 by omega)
                have e0 : wc.cell? ⟨b, 0, none⟩ = some (.int .i64 s.least) := F.out.box.cell 0
                have e1 : wc.cell? ⟨b, 1, none⟩ = some (.int .i64 s.most) := F.out.box.cell 1
                have e2 : wc.cell? ⟨b, 2, none⟩ = some (.int .i64 s.srtt) := F.out.box.cell 2
                have e3 : wc.cell? ⟨b, 3, none⟩ = some (.int .i64 s.vary) := F.out.box.cell 3
                have e4 : wc.cell? ⟨b, 4, none⟩ = some (.bool s.has) := F.out.box.cell 4
                have e5 : wc.cell? ⟨b, 5, none⟩ = some (.int .i64 s.doubled) := F.out.box.cell 5
                go_wp2_with fail
                refine (ref_sample s r _ hO.out (by omega) (by omega)).mono ?_
                rintro e w6 ⟨rfl, b6⟩
                obtain ⟨q, hq⟩ : ∃ q, q = (sample s r).1 := ⟨_, rfl⟩
                rw [← hq] at hbk
                rw [← hq]
                rw [show six q = .agg #[.int .i64 q.least, .int .i64 q.most, .int .i64 q.srtt, .int .i64 q.vary, .bool q.has, .int .i64 q.doubled] from rfl]
                have HQ := Lib.hid hq
                have HBK := Lib.hid hbk
                clear hq hbk e0 e1 e2 e3 e4 e5
                have X6 := F.out.box.below b6 F.out.box.lt
                have fb := X6.frozen
                have e0 : w6.cell? ⟨b, 0, none⟩ = some (.int .i64 s.least) := X6.cell 0
                have e1 : w6.cell? ⟨b, 1, none⟩ = some (.int .i64 s.most) := X6.cell 1
                have e2 : w6.cell? ⟨b, 2, none⟩ = some (.int .i64 s.srtt) := X6.cell 2
                have e3 : w6.cell? ⟨b, 3, none⟩ = some (.int .i64 s.vary) := X6.cell 3
                have e4 : w6.cell? ⟨b, 4, none⟩ = some (.bool s.has) := X6.cell 4
                have e5 : w6.cell? ⟨b, 5, none⟩ = some (.int .i64 s.doubled) := X6.cell 5
                have B7 := Lib.hid b6
                clear b6 X6 c0 c1
                go_wp2_with fail
                obtain ⟨W8, hW8⟩ : ∃ W8, W8 = set6 w6 b q := ⟨_, rfl⟩
                have h8 : IsEst W8 g s := by rw [hW8]; exact F.out.ep8 B7.out q
                have HW8 := Lib.hid hW8
                rw [set6] at hW8
                rw [← hW8]
                clear hW8 e0 e1 e2 e3 e4 e5 fb
                refine (sample_calls g s r _ h8 hO.out).mono ?_
                rintro e w9 ⟨rfl, h9, g9⟩
                rw [← HQ.out] at h9
                rw [HBK.out.2.2]
                have G : After w w9 g b gc gw s q := by rw [HW8.out] at g9; exact F.out.after B7.out h9 g9
                clear h8 h9 g9
                have G9 := Lib.hid G
                clear G
                have j0 : w9.cell? ⟨b, 0, none⟩ = some (.int .i64 q.least) := G9.out.box.cell 0
                have j1 : w9.cell? ⟨b, 1, none⟩ = some (.int .i64 q.most) := G9.out.box.cell 1
                have j2 : w9.cell? ⟨b, 2, none⟩ = some (.int .i64 q.srtt) := G9.out.box.cell 2
                have j3 : w9.cell? ⟨b, 3, none⟩ = some (.int .i64 q.vary) := G9.out.box.cell 3
                have j4 : w9.cell? ⟨b, 4, none⟩ = some (.bool q.has) := G9.out.box.cell 4
                have j5 : w9.cell? ⟨b, 5, none⟩ = some (.int .i64 q.doubled) := G9.out.box.cell 5
                go_wp2_with fail
                refine (equal_calls g q _ G9.out.ep HBK.out.1).mono ?_
                rintro e w10 ⟨rfl, b10⟩
                have G10 := Lib.hid (G9.out.next b10)
                clear b10 j0 j1 j2 j3 j4 j5
                have j0 : w10.cell? ⟨gw, 0, none⟩ = some (.int .i64 s.least) := G10.out.was.cell 0
                have j1 : w10.cell? ⟨gw, 1, none⟩ = some (.int .i64 s.most) := G10.out.was.cell 1
                have j2 : w10.cell? ⟨gw, 2, none⟩ = some (.int .i64 s.srtt) := G10.out.was.cell 2
                have j3 : w10.cell? ⟨gw, 3, none⟩ = some (.int .i64 s.vary) := G10.out.was.cell 3
                have j4 : w10.cell? ⟨gw, 4, none⟩ = some (.bool s.has) := G10.out.was.cell 4
                have j5 : w10.cell? ⟨gw, 5, none⟩ = some (.int .i64 s.doubled) := G10.out.was.cell 5
                go_wp2_with fail
                refine (equal_calls gc s _ G10.out.cl hO.out).mono ?_
                rintro e w11 ⟨rfl, b11⟩
                have G11 := Lib.hid (G10.out.next b11)
                clear b11 j0 j1 j2 j3 j4 j5
                go_wp2
                go_roundw
                case rel => exact ⟨k + 1, q, by omega, by omega, by go_num, Lib.hid G11.out.ep, Lib.hid G11.out.box, Lib.hid HBK.out.1, Lib.hid (by have := HBK.out.2.1; push_cast; omega), Lib.hid G11.out.bel⟩
                case measure => simp [intOf]; omega
        · go_wp2_with (first | (go_at_call 28; refine (known_calls _).mono ?_; rintro e w2 ⟨rfl, b2⟩))
          go_ret
          exact ⟨rfl, below_then hB.out hB.out.size b2⟩
      · go_wp2_with (first | (go_at_call 28; refine (known_calls _).mono ?_; rintro e w2 ⟨rfl, b2⟩))
        go_ret
        exact ⟨rfl, below_then hB.out hB.out.size b2⟩
end Go.Proofs.Ythafjgaleonbgaa.Rtt
