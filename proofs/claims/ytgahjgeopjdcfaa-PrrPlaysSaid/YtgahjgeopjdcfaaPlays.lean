/- The walks of PrrPlays: what is done with an episode and the document's own beside it. -/
import Derived.Test.YtgahjgeopjdcfaaPrrLaws
import Derived.Deep.RegionWith
namespace Go.Proofs.Ytgahjgeopjdcfaa.Prr
open Go.RowKit Go.OpenShut Go.Proofs.Ytgahjgeopjdcfaa.Aid
attribute [local go_sem] max_2 min_2 max2_i min2_i
def seven (s : Ep) : Value := .agg #[.int .i64 s.mss, .int .i64 s.thresh, .int .i64 s.whole, .int .i64 s.delivered, .int .i64 s.out, .int .i64 s.left, .bool s.began]
def RefGives (w : World) (v : Value) (e : Ending) (w' : World) : Prop := e = .returned v ∧ Below w.heap.size w w'
theorem up_div (n W : Int) (hW : 1 ≤ W) : (n + W - 1) / W = if n % W > 0 then n / W + 1 else n / W := by
  have h1 := Int.emod_add_mul_ediv n W
  have h2 := Int.emod_nonneg n (show W ≠ 0 by omega)
  have h3 := Int.emod_lt_of_pos n (show 0 < W by omega)
  generalize n % W = r at *
  generalize n / W = q at *
  split
  · have e : n + W - 1 = (r - 1) + W * (q + 1) := by rw [Int.mul_add]; omega
    rw [e, Int.add_mul_ediv_left _ _ (by omega), Int.ediv_eq_zero_of_lt (by omega) (by omega)]
    omega
  · have e : n + W - 1 = (r + W - 1) + W * q := by omega
    rw [e, Int.add_mul_ediv_left _ _ (by omega), Int.ediv_eq_zero_of_lt (by omega) (by omega)]
    omega
set_option maxHeartbeats 1000000 in
theorem ref_share (s : Ep) (w : World) (ho : Ok s) : Calls Try.prog 24 #[.agg #[.int .i64 s.mss, .int .i64 s.thresh, .int .i64 s.whole, .int .i64 s.delivered, .int .i64 s.out, .int .i64 s.left, .bool s.began]] w (RefGives w (.int .i64 (share s))) := by
  have hu : share s = _ := up_div (s.delivered * s.thresh) s.whole (by have := ho.2.2.1; have := ho.2.2.2.1; omega)
  have HU := Lib.hid hu
  clear hu
  obtain ⟨mss, thresh, whole, delivered, out, left, began⟩ := s
  obtain ⟨o1, o2, o3, o4, o5, o6, o7, o8, o9, o10, o11⟩ := ho
  simp only at *
  have hm := mul_bd (m := 1099511627776) (n := 1048576) o6 (show (0 : Int) ≤ thresh by omega) o7 (show thresh ≤ 1048576 by omega)
  obtain ⟨m1, m2⟩ := hm
  have q1 : 0 ≤ delivered * thresh / whole := Int.ediv_nonneg (by omega) (by omega)
  have q2 : delivered * thresh / whole ≤ delivered * thresh := Int.ediv_le_self _ (by omega)
  by_cases c : delivered * thresh % whole > 0
  · rw [HU.out, if_pos c]
    go_enter Try.func24, Try.ntmps24
    go_wp2
    go_ret
    exact ⟨rfl, (Below.refl _ w).alloc (Nat.le_refl _) _⟩
  · rw [HU.out, if_neg c]
    go_enter Try.func24, Try.ntmps24
    go_wp2
    go_ret
    exact ⟨rfl, (Below.refl _ w).alloc (Nat.le_refl _) _⟩
theorem ref_new (m f t : Int) (w : World) : Calls Try.prog 16 #[.int .i64 m, .int .i64 f, .int .i64 t] w (RefGives w (seven ⟨m, t, max f t, 0, 0, 0, false⟩)) := by
  go_enter Try.func16, Try.ntmps16
  go_wp2
  refine bodyPost_ret (v := seven ⟨m, t, max f t, 0, 0, 0, false⟩) (by simp [results, Try.results16, go_sem, seven]) rfl ⟨rfl, ?_⟩
  exact (Below.refl _ w).alloc (Nat.le_refl _) _
theorem two_boxes (w : World) (o1 o2 : Obj) : Below w.heap.size w ((w.alloc o1).alloc o2) := ((Below.refl _ w).alloc (Nat.le_refl _) _).alloc (by simp) _
set_option maxHeartbeats 1000000 in
theorem ref_sent (s : Ep) (n : Int) (w : World) (ho : Ok s) (h0 : 0 ≤ n) (h1 : n ≤ s.left) : Calls Try.prog 22 #[.agg #[.int .i64 s.mss, .int .i64 s.thresh, .int .i64 s.whole, .int .i64 s.delivered, .int .i64 s.out, .int .i64 s.left, .bool s.began], .int .i64 n] w (RefGives w (seven { s with out := s.out + n, left := s.left - n })) := by
  obtain ⟨mss, thresh, whole, delivered, out, left, began⟩ := s
  obtain ⟨o1, o2, o3, o4, o5, o6, o7, o8, o9, o10, o11⟩ := ho
  simp only at *
  go_enter Try.func22, Try.ntmps22
  go_wp2
  refine bodyPost_ret (v := seven ⟨mss, thresh, whole, delivered, out + n, left - n, began⟩) (by simp [results, Try.results22, go_sem, seven]) rfl ⟨rfl, ?_⟩
  exact two_boxes w _ _
theorem below_set {B : Nat} {a w : World} (h : Below B a w) {p : Addr} (hp : B ≤ p.block) (u : Value) : Below B a (w.setCell p u) :=
  ⟨h.os, h.tape, h.output, by simpa [World.setCell] using h.size, fun i hi => (Below.heap_setCell w p u i (by omega)).trans (h.block i hi)⟩
set_option maxHeartbeats 2000000 in
set_option maxRecDepth 100000 in
theorem ref_ack (s : Ep) (d pipe : Int) (w : World) (ho : Ok s) : Calls Try.prog 23 #[.agg #[.int .i64 s.mss, .int .i64 s.thresh, .int .i64 s.whole, .int .i64 s.delivered, .int .i64 s.out, .int .i64 s.left, .bool s.began], .int .i64 d, .int .i64 pipe] w (RefGives w (seven (ack s d pipe))) := by
  have hk := came_ok s d ho
  obtain ⟨mss, thresh, whole, delivered, out, left, began⟩ := s
  have hk2 : Ok ⟨mss, thresh, whole, min (delivered + min (max d 0) 1048576) 1099511627776, out, left, began⟩ := hk
  clear hk
  by_cases c : pipe > thresh
  · have E : ack ⟨mss, thresh, whole, delivered, out, left, began⟩ d pipe = ⟨mss, thresh, whole, min (delivered + min (max d 0) 1048576) 1099511627776, out, max (share ⟨mss, thresh, whole, min (delivered + min (max d 0) 1048576) 1099511627776, out, left, began⟩ - out) 0, began⟩ := by rw [ack, room, if_neg (by simp only; omega)]; rfl
    rw [E]
    clear E
    obtain ⟨o1, o2, o3, o4, o5, o6, o7, o8, o9, o10, o11⟩ := ho
    simp only at *
    have hsh := share_le _ hk2
    have hs0 : 0 ≤ share ⟨mss, thresh, whole, min (delivered + min (max d 0) 1048576) 1099511627776, out, left, began⟩ := by
      unfold share
      simp only
      exact Int.ediv_nonneg (by have := Int.mul_nonneg (show 0 ≤ min (delivered + min (max d 0) 1048576) 1099511627776 by omega) (show 0 ≤ thresh by omega); omega) (by omega)
    simp only at hsh
    have K2 := Lib.hid hk2
    clear hk2
    go_enter Try.func23, Try.ntmps23
    go_wp2_with fail
    obtain ⟨D, hD⟩ : ∃ D, D = min (delivered + min (max d 0) 1048576) 1099511627776 := ⟨_, rfl⟩
    rw [← hD]
    have k2 := K2.out
    rw [← hD] at hsh hs0 k2
    obtain ⟨S, hS⟩ : ∃ S, S = share ⟨mss, thresh, whole, D, out, left, began⟩ := ⟨_, rfl⟩
    rw [← hS] at hsh hs0
    have K3 := Lib.hid k2
    have dB : D ≤ 1099511627776 := k2.2.2.2.2.2.2.1
    clear K2 k2
    obtain ⟨W, hW⟩ : ∃ W, W = (w.alloc (.cells #[.int .i64 mss, .int .i64 thresh, .int .i64 whole, .int .i64 D, .int .i64 out, .int .i64 left, .bool began] 40)).alloc (.cells #[.int .i64 0, .int .i64 0, .int .i64 0, .int .i64 0, .int .i64 0, .int .i64 0, .bool false] 40) := ⟨_, rfl⟩
    rw [← hW]
    have hB : Below w.heap.size w W := by rw [hW]; exact two_boxes w _ _
    have hz : W.heap.size = w.heap.size + 2 := by rw [hW]; simp
    have h4 : Blk W w.heap.size 40 (cells ⟨mss, thresh, whole, D, out, left, began⟩) := by rw [hW]; exact (Blk.new w _ _).alloc _
    have h5 : Blk W (w.heap.size + 1) 40 (cells ⟨0, 0, 0, 0, 0, 0, false⟩) := by rw [hW]; have := Blk.new (w.alloc (.cells #[.int .i64 mss, .int .i64 thresh, .int .i64 whole, .int .i64 D, .int .i64 out, .int .i64 left, .bool began] 40)) 40 #[.int .i64 0, .int .i64 0, .int .i64 0, .int .i64 0, .int .i64 0, .int .i64 0, .bool false]; simpa [cells] using this
    have H4 := Lib.hid h4
    have H5 := Lib.hid h5
    have f0 := h4.frozen 0
    have c0 : W.cell? ⟨w.heap.size, 0, none⟩ = some (.int .i64 mss) := h4.cell 0
    have c1 : W.cell? ⟨w.heap.size, 1, none⟩ = some (.int .i64 thresh) := h4.cell 1
    have c2 : W.cell? ⟨w.heap.size, 2, none⟩ = some (.int .i64 whole) := h4.cell 2
    have c3 : W.cell? ⟨w.heap.size, 3, none⟩ = some (.int .i64 D) := h4.cell 3
    have c4 : W.cell? ⟨w.heap.size, 4, none⟩ = some (.int .i64 out) := h4.cell 4
    have c5 : W.cell? ⟨w.heap.size, 5, none⟩ = some (.int .i64 left) := h4.cell 5
    have c6 : W.cell? ⟨w.heap.size, 6, none⟩ = some (.bool began) := h4.cell 6
    have HS := Lib.hid hS
    have HD := Lib.hid hD
    clear hD hW h4 h5 hS
    go_region_with (first | (go_at_call 24; refine (ref_share ⟨mss, thresh, whole, D, out, left, began⟩ _ K3.out).mono ?_; rintro e w' ⟨rfl, b5⟩; rw [← HS.out]; have h6 := (Blk.drew H4.out).below b5 (by simp; omega); have d4 : w'.cell? ⟨w.heap.size, 4, none⟩ = some (.int .i64 out) := h6.cell 4; clear h6))
    all_goals
      have h6 := (Blk.drew H4.out).below b5 (by simp; omega)
      have h7 := (Blk.drew H5.out).below b5 (by simp; omega)
      have f5 := h6.frozen 5
      have g0 := h7.frozen
      have i0 : w'.cell? ⟨w.heap.size + 1, 0, none⟩ = some (.int .i64 0) := h7.cell 0
      have i1 : w'.cell? ⟨w.heap.size + 1, 1, none⟩ = some (.int .i64 0) := h7.cell 1
      have i2 : w'.cell? ⟨w.heap.size + 1, 2, none⟩ = some (.int .i64 0) := h7.cell 2
      have i3 : w'.cell? ⟨w.heap.size + 1, 3, none⟩ = some (.int .i64 0) := h7.cell 3
      have i4 : w'.cell? ⟨w.heap.size + 1, 4, none⟩ = some (.int .i64 0) := h7.cell 4
      have i5 : w'.cell? ⟨w.heap.size + 1, 5, none⟩ = some (.int .i64 0) := h7.cell 5
      have i6 : w'.cell? ⟨w.heap.size + 1, 6, none⟩ = some (.bool false) := h7.cell 6
      have d0 : w'.cell? ⟨w.heap.size, 0, none⟩ = some (.int .i64 mss) := h6.cell 0
      have d1 : w'.cell? ⟨w.heap.size, 1, none⟩ = some (.int .i64 thresh) := h6.cell 1
      have d2 : w'.cell? ⟨w.heap.size, 2, none⟩ = some (.int .i64 whole) := h6.cell 2
      have d3 : w'.cell? ⟨w.heap.size, 3, none⟩ = some (.int .i64 D) := h6.cell 3
      have d5 : w'.cell? ⟨w.heap.size, 5, none⟩ = some (.int .i64 left) := h6.cell 5
      have d6 : w'.cell? ⟨w.heap.size, 6, none⟩ = some (.bool began) := h6.cell 6
      clear h6 h7 c0 c1 c2 c3 c4 c5 c6 f0
      go_wp2
      rw [← HD.out, ← HS.out]
      refine bodyPost_ret (v := seven ⟨mss, thresh, whole, D, out, max (S - out) 0, began⟩) (by simp [results, Try.results23, go_sem, seven, i0, i1, i2, i3, i4, i5, i6]) rfl ⟨rfl, ?_⟩
      have b6 : Below w.heap.size w w' := below_then (below_drew hB) (by simp; omega) b5
      exact below_set (below_set (below_set (below_set (below_set (below_set (below_set (below_set b6 (by simp) _) (by simp) _) (by simp) _) (by simp) _) (by simp) _) (by simp) _) (by simp) _) (by simp) _
  · have E : ack ⟨mss, thresh, whole, delivered, out, left, began⟩ d pipe = ⟨mss, thresh, whole, min (delivered + min (max d 0) 1048576) 1099511627776, out, max (min (thresh - max pipe 0) (max (min (delivered + min (max d 0) 1048576) 1099511627776 - out) (min (max d 0) 1048576) + mss)) 0, began⟩ := by rw [ack, room, if_pos (by simp only; omega)]; rfl
    rw [E]
    clear E
    obtain ⟨o1, o2, o3, o4, o5, o6, o7, o8, o9, o10, o11⟩ := ho
    simp only at *
    go_enter Try.func23, Try.ntmps23
    go_wp2
    refine bodyPost_ret (v := seven ⟨mss, thresh, whole, min (delivered + min (max d 0) 1048576) 1099511627776, out, max (min (thresh - max pipe 0) (max (min (delivered + min (max d 0) 1048576) 1099511627776 - out) (min (max d 0) 1048576) + mss)) 0, began⟩) (by simp [results, Try.results23, go_sem, seven]) rfl ⟨rfl, ?_⟩
    exact two_boxes w _ _
end Go.Proofs.Ytgahjgeopjdcfaa.Prr
