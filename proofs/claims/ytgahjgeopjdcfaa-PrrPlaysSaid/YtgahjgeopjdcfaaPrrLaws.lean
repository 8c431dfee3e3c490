/- The walks of the laws of chapter 18 (prr): PrrNone, PrrShares, PrrBound. -/
import Derived.Test.YtgahjgeopjdcfaaPrr
namespace Go.Proofs.Ytgahjgeopjdcfaa.Prr
open Go.RowKit Go.OpenShut Go.Proofs.Ytgahjgeopjdcfaa.Aid
attribute [local go_sem] max_2 min_2 max2_i min2_i
def Yes (w : World) (e : Ending) (w' : World) : Prop := e = .returned (.bool true) ∧ Below w.heap.size w w'
theorem ack_nil (a b : Int) (w : World) : Calls Try.prog 9 #[.pointer none, .int .i64 a, .int .i64 b] w fun e w' => e = .returned (.int .i64 0) ∧ Below w.heap.size w w' := by
  go_enter Try.func9, Try.ntmps9
  go_wp2
  go_ret
  exact ⟨rfl, ((Below.refl _ w).alloc (Nat.le_refl _) _).alloc (by simp) _⟩
set_option maxRecDepth 100000 in
theorem none_walk (a b : Int) (w : World) : Calls Try.prog 6 #[.int .i64 a, .int .i64 b] w (Yes w) := by
  go_enter Try.func6, Try.ntmps6
  go_wp2_with fail
  refine (known_calls _).mono ?_
  rintro e w1 ⟨rfl, b1⟩
  go_wp2_with fail
  refine (ack_nil _ _ _).mono ?_
  rintro e w2 ⟨rfl, b2⟩
  have b3 := below_then b1 b1.size b2
  clear b1 b2
  go_wp2_with (first | (go_at_call 7; refine (known_calls _).mono ?_; rintro e w3 ⟨rfl, b4⟩) | go_in)
  go_ret
  exact ⟨rfl, below_then b3 b3.size b4⟩
theorem right_calls (m f t : Int) (w : World) (h : Right m f t) : Calls Try.prog 14 #[.int .i64 m, .int .i64 f, .int .i64 t] w fun e w' => e = .returned (.bool true) ∧ w = w' := by
  obtain ⟨h1, h2, h3, h4, h5, h6⟩ := h
  go_enter Try.func14, Try.ntmps14
  go_wp2
  go_ret
  exact ⟨rfl, rfl⟩
theorem share_mul (D T W : Int) (hW : 1 ≤ W) : D * T ≤ (D * T + W - 1) / W * W ∧ (D * T + W - 1) / W * W ≤ D * T + W - 1 := by
  have h1 := Int.ediv_mul_le (D * T + W - 1) (b := W) (by omega)
  have h2 := Int.lt_ediv_add_one_mul_self (D * T + W - 1) (b := W) (by omega)
  rw [Int.add_mul] at h2
  omega
theorem share_mono (D D' T W : Int) (hW : 1 ≤ W) (hT : 0 ≤ T) (h : D ≤ D') : (D * T + W - 1) / W ≤ (D' * T + W - 1) / W := by
  have := Int.mul_le_mul_of_nonneg_right h hT
  exact Int.ediv_le_ediv (by omega) (by omega)
theorem share_le (s : Ep) (ho : Ok s) : share s ≤ s.delivered := by
  obtain ⟨o1, o2, o3, o4, o5, o6, o7, o8, o9, o10, o11⟩ := ho
  have hm : s.delivered * s.thresh ≤ s.delivered * s.whole := Int.mul_le_mul_of_nonneg_left o4 o6
  have : (s.delivered * s.thresh + s.whole - 1) / s.whole < s.delivered + 1 := by
    rw [Int.ediv_lt_iff_lt_mul (by omega), Int.add_mul]
    omega
  unfold share
  omega
/-- Between the rounds: all that may go has gone, in just its share. -/
structure Part (m f t : Int) (k : Nat) (x : Int) (s : Ep) : Prop where
  mss : s.mss = m
  thresh : s.thresh = t
  whole : s.whole = max f t
  del : s.delivered = x
  out : s.out = share s
  left : s.left = 0
  ok : Ok s
  lo : 0 ≤ x
  hi : x ≤ k * 65535
theorem part_next {m f t : Int} {k : Nat} {x y : Int} {s : Ep} (h : Part m f t k x s) (hy : 0 ≤ y) (hy2 : y ≤ 65535) (hk : k < 200) (ht : 1 ≤ t) (_hf : max f t ≤ 1048576) :
    (sent (ack s y (t + 1)) (ack s y (t + 1)).left).2 = 0 ∧ Part m f t (k + 1) (x + y) (sent (ack s y (t + 1)) (ack s y (t + 1)).left).1 ∧ Ok (ack s y (t + 1)) := by
  obtain ⟨h1, h2, h3, h4, h5, h6, h7, h8, h9⟩ := h
  have hc : came s y = { s with delivered := x + y } := by
    unfold came
    congr 1
    omega
  have hr : room s y (t + 1) = share (came s y) - s.out := by rw [room, if_neg (by omega)]
  have hsh : share s ≤ share (came s y) := by
    rw [hc]
    unfold share
    simp only
    exact share_mono _ _ _ _ (by omega) (by omega) (by omega)
  have hle := share_le s h7
  have hd1 : s.delivered ≤ 1099511627776 := h7.2.2.2.2.2.2.1
  have hb := ack_ok s y (t + 1) 1099511627777 h7 (by omega) (by omega) (by omega)
  have hl : (ack s y (t + 1)).left = share (came s y) - s.out := by
    unfold ack
    rw [hr]
    simp only
    omega
  have hl0 : 0 ≤ (ack s y (t + 1)).left := by rw [hl]; omega
  have hs2 := sent_ok (ack s y (t + 1)) (ack s y (t + 1)).left _ hb.1 (Int.le_refl _) (by have := hb.2; omega)
  have e : sent (ack s y (t + 1)) (ack s y (t + 1)).left = ({ ack s y (t + 1) with out := (ack s y (t + 1)).out + (ack s y (t + 1)).left, left := (ack s y (t + 1)).left - (ack s y (t + 1)).left }, 0) := by
    rw [sent, if_neg (by omega), if_neg (by omega)]
  rw [e] at hs2 ⊢
  refine ⟨rfl, ⟨?_, ?_, ?_, ?_, ?_, ?_, hs2.1, by omega, by omega⟩, hb.1⟩
  · simp only [ack, hc]; exact h1
  · simp only [ack, hc]; exact h2
  · simp only [ack, hc]; exact h3
  · simp only [ack, hc]
  · simp only [hl]
    simp only [ack, hc, share]
    omega
  · simp only; omega
set_option maxRecDepth 100000 in
set_option maxHeartbeats 4000000 in
theorem shares_walk (m f t : Int) (A : Option Addr) (c : Nat) (xs : List Int) (w : World) (bm : -9223372036854775808 ≤ m ∧ m ≤ 9223372036854775807) (hn : xs.length ≤ maxLen)
    (hw : ∀ x ∈ xs, 0 ≤ x ∧ x ≤ 65535) (hr : Reps w A 1 (fun x => [.int .u16 x]) xs) :
    Calls Try.prog 3 #[.int .i64 m, .int .i64 f, .int .i64 t, .slice A xs.length c] w (Yes w) := by
  unfold maxLen at hn
  have R := Lib.hid hr
  have HW := Lib.hid hw
  clear hr hw
  by_cases h0 : Right m f t
  · obtain ⟨h1, h2, h3, h4, h5, h6⟩ := h0
    go_enter Try.func3, Try.ntmps3
    go_wp2_with fail
    refine (known_calls _).mono ?_
    rintro e w1 ⟨rfl, b1⟩
    go_wp2_with fail
    refine (new_ok _ _ _ _ ⟨by omega, by omega, by omega, by omega, by omega, by omega⟩).mono ?_
    rintro e w2 ⟨rfl, e2, b2, s2⟩
    have b3 := below_then b1 b1.size b2
    have hg := b1.size
    have I0 : Hid (Part m f t 0 0 ⟨m, t, max f t, 0, 0, 0, false⟩) := Lib.hid ⟨rfl, rfl, rfl, rfl, by
      show 0 = (0 * t + max f t - 1) / max f t
      rw [Int.zero_mul, Int.ediv_eq_zero_of_lt (by omega) (by omega)], rfl, by simp only [Ok]; omega, by omega, by omega⟩
    have E2 := Lib.hid e2
    generalize w1.heap.size = g at *
    clear e2 b1 b2
    go_wp2_with fail
    go_loopw [11, 12] (fun t' i wr => ∃ (k : Nat) (s : Ep) (x : Int), k ≤ xs.length ∧ k ≤ 200 ∧ t' = .int .i64 x ∧ i = .int .i64 k ∧ Hid (IsEp wr g s) ∧ Hid (Part m f t k x s) ∧ Below w.heap.size w wr) (fun _ i _ => 200 - (intOf i).toNat)
    case atStart => exact ⟨0, _, 0, by omega, by omega, rfl, rfl, E2, I0, b3⟩
    case round =>
      obtain ⟨k, s, x, hk, hk2, rfl, rfl, hE, hI, hB⟩ := hrel
      by_cases hlt : k < xs.length
      · by_cases hlt2 : k < 200
        · obtain ⟨y, hy⟩ : ∃ y, xs[k]? = some y := ⟨_, List.getElem?_eq_getElem hlt⟩
          obtain ⟨ad, rfl, hl, hc⟩ := (R.out.below hB) k y hy
          obtain ⟨y0, y1⟩ := HW.out y (List.mem_of_getElem? hy)
          have x0 := hI.out.lo
          have x1 := hI.out.hi
          have c0 : wr.cell? (ad.add k) = some (.int .u16 y) := by have := hc 0 _ rfl; simpa using this
          obtain ⟨n0, n1, n2⟩ := part_next hI.out y0 y1 hlt2 h5 (by omega)
          have ho := hI.out.ok
          obtain ⟨a, ha⟩ : ∃ a, a = ack s y (t + 1) := ⟨_, rfl⟩
          rw [← ha] at n0 n1 n2
          have HA := Lib.hid ha
          have N0 := Lib.hid n0
          have N1 := Lib.hid n1
          have HY := Lib.hid hy
          clear hc ha n0 n1 hI hy
          go_wp2_with fail
          refine (ack_calls g s _ _ _ hE.out ho).mono ?_
          rintro e w4 ⟨rfl, e4, g4⟩
          rw [← HA.out] at e4 ⊢
          have B4 := below_grown hB hB.size g4 hg
          have E4 := Lib.hid e4
          have c4 : w4.cell? (ad.add k) = some (.int .u16 y) := by
            obtain ⟨ad', ea, _, hc4⟩ := (R.out.below B4) k _ HY.out
            cases ea
            have := hc4 0 _ rfl
            simpa using this
          clear e4 g4 hE c0
          go_wp2_with fail
          refine (sent_calls g a _ _ E4.out n2).mono ?_
          rintro e w5 ⟨rfl, e5, g5⟩
          rw [N0.out]
          have B5 := below_grown B4 B4.size g5 hg
          have I5 := N1.out
          generalize (sent a a.left).1 = s5 at *
          have E5 := Lib.hid e5
          have sm := share_mul (x + y) t (max f t) (by omega)
          have sb := mul_bd (m := 13107000) (n := 1048576) (show 0 ≤ x + y by omega) (show (0 : Int) ≤ t by omega) (by omega) (show t ≤ 1048576 by omega)
          have hq : s5.out = ((x + y) * t + max f t - 1) / max f t := by rw [I5.out, share, I5.del, I5.thresh, I5.whole]
          have r1 : s5.left = 0 := I5.left
          have r2 : s5.delivered = x + y := I5.del
          generalize ((x + y) * t + max f t - 1) / max f t = q at *
          have r3 : (q - 1) * max f t = q * max f t - max f t := by rw [Int.sub_mul]; omega
          have r4 : -1048576 ≤ q - 1 := by
            rcases Int.lt_or_le q 0 with hq0 | hq0
            · exfalso
              have : q * max f t < 0 := Int.mul_neg_of_neg_of_pos hq0 (by omega)
              omega
            · omega
          have r5 : q ≤ q * max f t ∨ q ≤ 0 := by
            rcases Int.lt_or_le 0 q with hq0 | hq0
            · left
              have := Int.mul_le_mul_of_nonneg_left (show 1 ≤ max f t by omega) (Int.le_of_lt hq0)
              omega
            · exact .inr hq0
          have t1 : (x + y) * t ≤ q * max f t := sm.1
          have t2 : q * max f t ≤ (x + y) * t + max f t - 1 := sm.2
          have t3 : (q - 1) * max f t < (x + y) * t := by omega
          have t4 : -1048576 ≤ (q - 1) * max f t := by omega
          have t5 : 0 ≤ (x + y) * t := sb.1
          have t6 : (x + y) * t ≤ 13107000 * 1048576 := sb.2
          have t7 : q ≤ 13743895347200 + 1048576 := by omega
          have HQ := Lib.hid hq
          have Z1 := Lib.hid r1
          have Z2 := Lib.hid r2
          have J5 := Lib.hid I5
          clear sm sb hq r1 r2 r3 r5 I5 e5 g5 E4 N0 N1
          go_wp2_with fail
          refine (left_calls g s5 _ E5.out).mono ?_
          rintro e w6 ⟨rfl, rfl⟩
          rw [Z1.out]
          go_wp2_with fail
          refine (delivered_calls g s5 _ E5.out).mono ?_
          rintro e w6 ⟨rfl, rfl⟩
          rw [Z2.out]
          go_wp2_with fail
          refine (out_calls g s5 _ E5.out).mono ?_
          rintro e w6 ⟨rfl, rfl⟩
          rw [HQ.out]
          go_wp2_with fail
          refine (out_calls g s5 _ E5.out).mono ?_
          rintro e w6 ⟨rfl, rfl⟩
          rw [HQ.out]
          go_wp2
          go_roundw
          case rel => exact ⟨k + 1, s5, _, by omega, by omega, rfl, by go_num, E5, J5, B5⟩
          case measure => simp [intOf]; omega
        · go_wp2_with (first | (go_at_call 7; refine (known_calls _).mono ?_; rintro e w3 ⟨rfl, b4⟩))
          go_ret
          exact ⟨rfl, below_then hB hB.size b4⟩
      · go_wp2_with (first | (go_at_call 7; refine (known_calls _).mono ?_; rintro e w3 ⟨rfl, b4⟩))
        go_ret
        exact ⟨rfl, below_then hB hB.size b4⟩
  · go_enter Try.func3, Try.ntmps3
    go_wp2_with fail
    refine (known_calls _).mono ?_
    rintro e w1 ⟨rfl, b1⟩
    go_wp2_with fail
    refine (new_bad _ _ _ _ h0).mono ?_
    rintro e w2 ⟨rfl, rfl⟩
    go_wp2_with (first | (go_at_call 7; refine (known_calls _).mono ?_; rintro e w2 ⟨rfl, b2⟩))
    go_ret
    exact ⟨rfl, below_then b1 b1.size b2⟩
structure Op where
  kind : Int
  a : Int
  b : Int
deriving Inhabited
def encOp (o : Op) : List Value := [.int .u8 o.kind, .int .i64 o.a, .int .i64 o.b]
def Wf (o : Op) : Prop := (0 ≤ o.kind ∧ o.kind ≤ 255) ∧ (-9223372036854775808 ≤ o.a ∧ o.a ≤ 9223372036854775807) ∧ (-9223372036854775808 ≤ o.b ∧ o.b ≤ 9223372036854775807)
/-- Between the rounds: no more went, or may go, than came, and a segment for each answer, and one segment more. -/
structure Bnd (m f t : Int) (k : Nat) (acks : Int) (s : Ep) : Prop where
  mss : s.mss = m
  thresh : s.thresh = t
  whole : s.whole = max f t
  ok : Ok s
  dl : s.delivered ≤ k * 1048576
  sum : s.out + s.left ≤ s.delivered + acks * m + m
  am : 0 ≤ acks * m ∧ acks * m ≤ acks * 2048
theorem bnd_sent {m f t : Int} {k k' : Nat} {ak n : Int} {s : Ep} (h : Bnd m f t k ak s) (hkk : k ≤ k') (hk : k' ≤ 300) (ha : ak ≤ k') (hm : 1 ≤ m ∧ m ≤ 2048) : Bnd m f t k' ak (sent s n).1 := by
  obtain ⟨h1, h2, h3, h4, h5, h6, h7⟩ := h
  have ok := sent_ok s n _ h4 h6 (by omega)
  refine ⟨?_, ?_, ?_, ok.1, ?_, ?_, h7⟩
  · unfold sent; split
    · exact h1
    · split <;> exact h1
  · unfold sent; split
    · exact h2
    · split <;> exact h2
  · unfold sent; split
    · exact h3
    · split <;> exact h3
  · have : (sent s n).1.delivered = s.delivered := by
      unfold sent; split
      · rfl
      · split <;> rfl
    omega
  · have : (sent s n).1.delivered = s.delivered := by
      unfold sent; split
      · rfl
      · split <;> rfl
    rw [this]; exact ok.2
theorem bnd_first {m f t : Int} {k : Nat} {ak : Int} {s : Ep} (h : Bnd m f t k ak s) (hk : k < 300) (ha : ak ≤ k) (hm : 1 ≤ m ∧ m ≤ 2048) : Bnd m f t (k + 1) ak (first s).1 := by
  obtain ⟨h1, h2, h3, h4, h5, h6, h7⟩ := h
  have h8 := h4
  obtain ⟨o1, o2, o3, o4, o5, o6, o7, o8, o9, o10, o11⟩ := h4
  unfold first
  split
  · exact ⟨h1, h2, h3, h8, by simp only; omega, h6, h7⟩
  · rename_i hn
    simp only [not_or] at hn
    exact ⟨h1, h2, h3, ⟨o1, o2, o3, o4, o5, o6, o7, o8, o9, by simp only; omega, by simp only; omega⟩, by simp only; omega, by simp only; omega, h7⟩
theorem bnd_ack {m f t : Int} {k : Nat} {ak d p : Int} {s : Ep} (h : Bnd m f t k ak s) (hk : k < 300) (ha : ak ≤ k) (hm : 1 ≤ m ∧ m ≤ 2048) : Bnd m f t (k + 1) (ak + 1) (ack s d p) := by
  obtain ⟨h1, h2, h3, h4, h5, h6, h7⟩ := h
  have hd : s.delivered ≤ 1099511627776 := h4.2.2.2.2.2.2.1
  have e1 : (ak + 1) * m = ak * m + m := by rw [Int.add_mul, Int.one_mul]
  have ok := ack_ok s d p 1099511627776000 h4 (by omega) (by omega) (by omega)
  have hc := came_ok s d h4
  have hsh := share_le (came s d) hc
  have hd0 : 0 ≤ s.delivered := h4.2.2.2.2.2.1
  have hl0 : 0 ≤ s.left := h4.2.2.2.2.2.2.2.2.2.1
  have hcd : (came s d).delivered = s.delivered + min (max d 0) 1048576 := by simp only [came]; omega
  have hr : room s d p ≤ (came s d).delivered - s.out ∨ room s d p ≤ max ((came s d).delivered - s.out) (min (max d 0) 1048576) + m := by
    unfold room
    split
    · right; rw [h1]; omega
    · left; omega
  refine ⟨h1, h2, h3, ok.1, ?_, ?_, by omega⟩
  · show (came s d).delivered ≤ _
    rw [hcd]; omega
  · show s.out + max (room s d p) 0 ≤ (came s d).delivered + (ak + 1) * m + m
    omega
set_option maxRecDepth 100000 in
set_option maxHeartbeats 8000000 in
theorem bound_walk (m f t : Int) (A : Option Addr) (c : Nat) (ops : List Op) (w : World) (hn : ops.length ≤ maxLen)
    (hw : ∀ o ∈ ops, Wf o) (hr : Reps w A 3 encOp ops) :
    Calls Try.prog 4 #[.int .i64 m, .int .i64 f, .int .i64 t, .slice A ops.length c] w (Yes w) := by
  unfold maxLen at hn
  have R := Lib.hid hr
  have HW := Lib.hid hw
  clear hr hw
  by_cases h0 : Right m f t
  · obtain ⟨h1, h2, h3, h4, h5, h6⟩ := h0
    go_enter Try.func4, Try.ntmps4
    go_wp2_with fail
    refine (known_calls _).mono ?_
    rintro e w1 ⟨rfl, b1⟩
    go_wp2_with fail
    refine (new_ok _ _ _ _ ⟨by omega, by omega, by omega, by omega, by omega, by omega⟩).mono ?_
    rintro e w2 ⟨rfl, e2, b2, s2⟩
    have b3 := below_then b1 b1.size b2
    have hg := b1.size
    have I0 : Hid (Bnd m f t 0 0 ⟨m, t, max f t, 0, 0, 0, false⟩) := Lib.hid ⟨rfl, rfl, rfl, by simp only [Ok]; omega, by simp, by simp only; omega, by omega⟩
    have E2 := Lib.hid e2
    generalize w1.heap.size = g at *
    clear e2 b1 b2
    go_wp2_with (first | (go_at_call 14; refine (right_calls _ _ _ _ ⟨by omega, by omega, by omega, by omega, by omega, by omega⟩).mono ?_; rintro e w3 ⟨rfl, rfl⟩))
    go_loopw [12, 13] (fun a' i wr => ∃ (k : Nat) (s : Ep) (ak : Int), k ≤ ops.length ∧ k ≤ 300 ∧ a' = .int .i64 ak ∧ i = .int .i64 k ∧ 0 ≤ ak ∧ ak ≤ k ∧ Hid (IsEp wr g s) ∧ Hid (Bnd m f t k ak s) ∧ Below w.heap.size w wr) (fun _ i _ => 300 - (intOf i).toNat)
    case atStart => exact ⟨0, _, 0, by omega, by omega, rfl, rfl, by omega, by omega, E2, I0, b3⟩
    case round =>
      obtain ⟨k, s, ak, hk, hk2, rfl, rfl, ha0, ha1, hE, hI, hB⟩ := hrel
      by_cases hlt : k < ops.length
      · by_cases hlt2 : k < 300
        · obtain ⟨op, hop⟩ : ∃ op, ops[k]? = some op := ⟨_, List.getElem?_eq_getElem hlt⟩
          obtain ⟨ad, rfl, hl, hc⟩ := (R.out.below hB) k op hop
          obtain ⟨⟨z0, z1⟩, ⟨y0, y1⟩, ⟨x0, x1⟩⟩ := HW.out op (List.mem_of_getElem? hop)
          have c0 : wr.cell? (ad.add (k * 3)) = some (.int .u8 op.kind) := hc 0 _ rfl
          have c1 : wr.cell? ⟨(ad.add (k * 3)).block, (ad.add (k * 3)).off + 1, none⟩ = some (.int .i64 op.a) := (add_next ad (k * 3) 1 (by omega)) ▸ hc 1 _ rfl
          have c2 : wr.cell? ⟨(ad.add (k * 3)).block, (ad.add (k * 3)).off + 2, none⟩ = some (.int .i64 op.b) := (add_next ad (k * 3) 2 (by omega)) ▸ hc 2 _ rfl
          have ho := hI.out.ok
          clear hc
          obtain ⟨z, a, b⟩ := op
          replace hop := Lib.hid hop
          simp only at *
          by_cases hz2 : z % 4 = 2
          · go_wp2_with fail
            refine (sent_calls g s _ _ hE.out ho).mono ?_
            rintro e w4 ⟨rfl, e4, g4⟩
            have B4 : Below w.heap.size w w4 := below_grown hB hB.size g4 hg
            have I4 := bnd_sent (n := a) (k' := k + 1) hI.out (by omega) (by omega) (by omega) ⟨h1, h2⟩
            clear hI hE c0 c1 c2 ho
            generalize (sent s a).2 = v4 at *
            generalize (sent s a).1 = s4 at *
            have ho4 := I4.ok
            have D4 := I4.dl
            have hs4 := I4.sum
            have hm4 := I4.am
            have m1 := mul_bd (m := 1099511627776) (n := 1048576) ho4.2.2.2.2.2.1 (show (0 : Int) ≤ t by omega) ho4.2.2.2.2.2.2.1 (show t ≤ 1048576 by omega)
            obtain ⟨m2, m3⟩ := m1
            obtain ⟨D, hD⟩ : ∃ D, D = s4.delivered := ⟨_, rfl⟩
            obtain ⟨O, hO⟩ : ∃ O, O = s4.out := ⟨_, rfl⟩
            obtain ⟨L, hL⟩ : ∃ L, L = s4.left := ⟨_, rfl⟩
            have l0 : 0 ≤ L := by rw [hL]; exact ho4.2.2.2.2.2.2.2.2.2.1
            have d0 : 0 ≤ D := by rw [hD]; exact ho4.2.2.2.2.2.1
            have d1 : D ≤ 1099511627776 := by rw [hD]; exact ho4.2.2.2.2.2.2.1
            have u0 : 0 ≤ O := by rw [hO]; exact ho4.2.2.2.2.2.2.2.1
            rw [← hD, ← hO, ← hL] at hs4
            rw [← hD] at m2 m3
            have q1 : 0 ≤ (D * t + max f t - 1) / max f t := Int.ediv_nonneg (by omega) (by omega)
            have q2 : (D * t + max f t - 1) / max f t ≤ D * t + max f t - 1 := Int.ediv_le_self _ (by omega)
            have HD := Lib.hid hD
            have HO := Lib.hid hO
            have HL := Lib.hid hL
            have J4 := Lib.hid I4
            have E4 : Hid (IsEp w4 g s4) := Lib.hid e4
            clear hD hO hL I4 e4 ho4 D4
            go_wp2_with fail
            refine (delivered_calls g s4 _ E4.out).mono ?_
            rintro e w6 ⟨rfl, rfl⟩
            rw [← HD.out]
            go_wp2_with fail
            refine (out_calls g s4 _ E4.out).mono ?_
            rintro e w6 ⟨rfl, rfl⟩
            rw [← HO.out]
            go_wp2_with fail
            refine (delivered_calls g s4 _ E4.out).mono ?_
            rintro e w6 ⟨rfl, rfl⟩
            rw [← HD.out]
            go_wp2_with fail
            refine (left_calls g s4 _ E4.out).mono ?_
            rintro e w6 ⟨rfl, rfl⟩
            rw [← HL.out]
            go_wp2
            go_roundw
            case rel => exact ⟨k + 1, s4, ak, by omega, by omega, rfl, by go_num, by omega, by omega, E4, J4, B4⟩
            case measure => simp [intOf]; omega
          · by_cases hz3 : z % 4 = 3
            · go_wp2_with fail
              refine (first_calls g s _ hE.out ho).mono ?_
              rintro e w4 ⟨rfl, e4, g4⟩
              have B4 : Below w.heap.size w w4 := below_grown hB hB.size g4 hg
              have I4 := bnd_first hI.out hlt2 ha1 ⟨h1, h2⟩
              clear hI hE c0 c1 c2 ho
              generalize (first s).2 = v4 at *
              generalize (first s).1 = s4 at *
              have ho4 := I4.ok
              have D4 := I4.dl
              have hs4 := I4.sum
              have hm4 := I4.am
              have m1 := mul_bd (m := 1099511627776) (n := 1048576) ho4.2.2.2.2.2.1 (show (0 : Int) ≤ t by omega) ho4.2.2.2.2.2.2.1 (show t ≤ 1048576 by omega)
              obtain ⟨m2, m3⟩ := m1
              obtain ⟨D, hD⟩ : ∃ D, D = s4.delivered := ⟨_, rfl⟩
              obtain ⟨O, hO⟩ : ∃ O, O = s4.out := ⟨_, rfl⟩
              obtain ⟨L, hL⟩ : ∃ L, L = s4.left := ⟨_, rfl⟩
              have l0 : 0 ≤ L := by rw [hL]; exact ho4.2.2.2.2.2.2.2.2.2.1
              have d0 : 0 ≤ D := by rw [hD]; exact ho4.2.2.2.2.2.1
              have d1 : D ≤ 1099511627776 := by rw [hD]; exact ho4.2.2.2.2.2.2.1
              have u0 : 0 ≤ O := by rw [hO]; exact ho4.2.2.2.2.2.2.2.1
              rw [← hD, ← hO, ← hL] at hs4
              rw [← hD] at m2 m3
              have q1 : 0 ≤ (D * t + max f t - 1) / max f t := Int.ediv_nonneg (by omega) (by omega)
              have q2 : (D * t + max f t - 1) / max f t ≤ D * t + max f t - 1 := Int.ediv_le_self _ (by omega)
              have HD := Lib.hid hD
              have HO := Lib.hid hO
              have HL := Lib.hid hL
              have J4 := Lib.hid I4
              have E4 : Hid (IsEp w4 g s4) := Lib.hid e4
              clear hD hO hL I4 e4 ho4 D4
              go_wp2_with fail
              refine (delivered_calls g s4 _ E4.out).mono ?_
              rintro e w6 ⟨rfl, rfl⟩
              rw [← HD.out]
              go_wp2_with fail
              refine (out_calls g s4 _ E4.out).mono ?_
              rintro e w6 ⟨rfl, rfl⟩
              rw [← HO.out]
              go_wp2_with fail
              refine (delivered_calls g s4 _ E4.out).mono ?_
              rintro e w6 ⟨rfl, rfl⟩
              rw [← HD.out]
              go_wp2_with fail
              refine (left_calls g s4 _ E4.out).mono ?_
              rintro e w6 ⟨rfl, rfl⟩
              rw [← HL.out]
              go_wp2
              go_roundw
              case rel => exact ⟨k + 1, s4, ak, by omega, by omega, rfl, by go_num, by omega, by omega, E4, J4, B4⟩
              case measure => simp [intOf]; omega
            · go_wp2_with fail
              go_still_tail 11, (by kernel_rfl)
              go_wp2_with fail
              refine (ack_calls g s _ _ _ (hE.out.drew) ho).mono ?_
              rintro e w3 ⟨rfl, e3, g3⟩
              have B3 : Below w.heap.size w w3 := below_grown (below_drew hB) hB.size g3 hg
              have I3 := bnd_ack (d := a) (p := b) hI.out hlt2 ha1 ⟨h1, h2⟩
              have c3 : w3.cell? (ad.add (k * 3)) = some (.int .u8 z) := by
                obtain ⟨ad', ea, _, hc4⟩ := (R.out.below B3) k _ hop.out
                cases ea
                exact hc4 0 _ rfl
              clear hI hE c0 c1 c2 ho
              generalize (ack s a b) = s3 at *
              by_cases hz : z ≥ 128
              · have n0 : (sent s3 s3.left).2 = 0 := by
                  have := I3.ok.2.2.2.2.2.2.2.2.2.1
                  rw [sent, if_neg (by omega), if_neg (by omega)]
                have N0 := Lib.hid n0
                have E3 : Hid (IsEp w3 g s3) := Lib.hid e3
                have I4 := bnd_sent (n := s3.left) (k' := k + 1) I3 (by omega) (by omega) (by omega) ⟨h1, h2⟩
                have o3 := I3.ok
                clear n0 e3 I3
                go_wp2_with fail
                refine (sent_calls g s3 _ _ E3.out o3).mono ?_
                rintro e w4 ⟨rfl, e4, g4⟩
                have B4 : Below w.heap.size w w4 := below_grown B3 B3.size g4 hg
                rw [N0.out]
                clear g4 N0 E3 o3 c3
                generalize (sent s3 s3.left).1 = s4 at *
                have ho4 := I4.ok
                have D4 := I4.dl
                have hs4 := I4.sum
                have hm4 := I4.am
                have m1 := mul_bd (m := 1099511627776) (n := 1048576) ho4.2.2.2.2.2.1 (show (0 : Int) ≤ t by omega) ho4.2.2.2.2.2.2.1 (show t ≤ 1048576 by omega)
                obtain ⟨m2, m3⟩ := m1
                obtain ⟨D, hD⟩ : ∃ D, D = s4.delivered := ⟨_, rfl⟩
                obtain ⟨O, hO⟩ : ∃ O, O = s4.out := ⟨_, rfl⟩
                obtain ⟨L, hL⟩ : ∃ L, L = s4.left := ⟨_, rfl⟩
                have l0 : 0 ≤ L := by rw [hL]; exact ho4.2.2.2.2.2.2.2.2.2.1
                have d0 : 0 ≤ D := by rw [hD]; exact ho4.2.2.2.2.2.1
                have d1 : D ≤ 1099511627776 := by rw [hD]; exact ho4.2.2.2.2.2.2.1
                have u0 : 0 ≤ O := by rw [hO]; exact ho4.2.2.2.2.2.2.2.1
                rw [← hD, ← hO, ← hL] at hs4
                rw [← hD] at m2 m3
                have q1 : 0 ≤ (D * t + max f t - 1) / max f t := Int.ediv_nonneg (by omega) (by omega)
                have q2 : (D * t + max f t - 1) / max f t ≤ D * t + max f t - 1 := Int.ediv_le_self _ (by omega)
                have HD := Lib.hid hD
                have HO := Lib.hid hO
                have HL := Lib.hid hL
                have J4 := Lib.hid I4
                have E4 : Hid (IsEp w4 g s4) := Lib.hid e4
                clear hD hO hL I4 e4 ho4 D4
                go_wp2_with fail
                refine (delivered_calls g s4 _ E4.out).mono ?_
                rintro e w6 ⟨rfl, rfl⟩
                rw [← HD.out]
                go_wp2_with fail
                refine (out_calls g s4 _ E4.out).mono ?_
                rintro e w6 ⟨rfl, rfl⟩
                rw [← HO.out]
                go_wp2_with fail
                refine (delivered_calls g s4 _ E4.out).mono ?_
                rintro e w6 ⟨rfl, rfl⟩
                rw [← HD.out]
                go_wp2_with fail
                refine (left_calls g s4 _ E4.out).mono ?_
                rintro e w6 ⟨rfl, rfl⟩
                rw [← HL.out]
                go_wp2
                go_roundw
                case rel => exact ⟨k + 1, s4, (ak + 1), by omega, by omega, rfl, by go_num, by omega, by omega, E4, J4, B4⟩
                case measure => simp [intOf]; omega
              · have e4 := e3
                have I4 := I3
                have B4 := B3
                clear e3 I3 B3
                obtain ⟨s4, rfl⟩ : ∃ s4, s4 = s3 := ⟨_, rfl⟩
                obtain ⟨w4, rfl⟩ : ∃ w4, w4 = w3 := ⟨_, rfl⟩
                have ho4 := I4.ok
                have D4 := I4.dl
                have hs4 := I4.sum
                have hm4 := I4.am
                have m1 := mul_bd (m := 1099511627776) (n := 1048576) ho4.2.2.2.2.2.1 (show (0 : Int) ≤ t by omega) ho4.2.2.2.2.2.2.1 (show t ≤ 1048576 by omega)
                obtain ⟨m2, m3⟩ := m1
                obtain ⟨D, hD⟩ : ∃ D, D = s4.delivered := ⟨_, rfl⟩
                obtain ⟨O, hO⟩ : ∃ O, O = s4.out := ⟨_, rfl⟩
                obtain ⟨L, hL⟩ : ∃ L, L = s4.left := ⟨_, rfl⟩
                have l0 : 0 ≤ L := by rw [hL]; exact ho4.2.2.2.2.2.2.2.2.2.1
                have d0 : 0 ≤ D := by rw [hD]; exact ho4.2.2.2.2.2.1
                have d1 : D ≤ 1099511627776 := by rw [hD]; exact ho4.2.2.2.2.2.2.1
                have u0 : 0 ≤ O := by rw [hO]; exact ho4.2.2.2.2.2.2.2.1
                rw [← hD, ← hO, ← hL] at hs4
                rw [← hD] at m2 m3
                have q1 : 0 ≤ (D * t + max f t - 1) / max f t := Int.ediv_nonneg (by omega) (by omega)
                have q2 : (D * t + max f t - 1) / max f t ≤ D * t + max f t - 1 := Int.ediv_le_self _ (by omega)
                have HD := Lib.hid hD
                have HO := Lib.hid hO
                have HL := Lib.hid hL
                have J4 := Lib.hid I4
                have E4 : Hid (IsEp w4 g s4) := Lib.hid e4
                clear hD hO hL I4 e4 ho4 D4
                go_wp2_with fail
                refine (delivered_calls g s4 _ E4.out).mono ?_
                rintro e w6 ⟨rfl, rfl⟩
                rw [← HD.out]
                go_wp2_with fail
                refine (out_calls g s4 _ E4.out).mono ?_
                rintro e w6 ⟨rfl, rfl⟩
                rw [← HO.out]
                go_wp2_with fail
                refine (delivered_calls g s4 _ E4.out).mono ?_
                rintro e w6 ⟨rfl, rfl⟩
                rw [← HD.out]
                go_wp2_with fail
                refine (left_calls g s4 _ E4.out).mono ?_
                rintro e w6 ⟨rfl, rfl⟩
                rw [← HL.out]
                go_wp2
                go_roundw
                case rel => exact ⟨k + 1, s4, (ak + 1), by omega, by omega, rfl, by go_num, by omega, by omega, E4, J4, B4⟩
                case measure => simp [intOf]; omega
        · go_wp2_with (first | (go_at_call 7; refine (known_calls _).mono ?_; rintro e w3 ⟨rfl, b4⟩))
          go_ret
          exact ⟨rfl, below_then hB hB.size b4⟩
      · go_wp2_with (first | (go_at_call 7; refine (known_calls _).mono ?_; rintro e w3 ⟨rfl, b4⟩))
        go_ret
        exact ⟨rfl, below_then hB hB.size b4⟩
  · go_enter Try.func4, Try.ntmps4
    go_wp2_with fail
    refine (known_calls _).mono ?_
    rintro e w1 ⟨rfl, b1⟩
    go_wp2_with fail
    refine (new_bad _ _ _ _ h0).mono ?_
    rintro e w2 ⟨rfl, rfl⟩
    go_wp2_with (first | (go_at_call 7; refine (known_calls _).mono ?_; rintro e w2 ⟨rfl, b2⟩))
    go_ret
    exact ⟨rfl, below_then b1 b1.size b2⟩
end Go.Proofs.Ytgahjgeopjdcfaa.Prr
