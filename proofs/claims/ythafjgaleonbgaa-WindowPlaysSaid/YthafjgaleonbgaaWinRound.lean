/- What WindowPlays' rounds keep. -/
import Derived.Test.YthafjgaleonbgaaWinLift
attribute [local go_sem ↓] Go.wp_at_zero Go.wp_at_succ
namespace Go.Proofs.Ythafjgaleonbgaa.Window
open Go.RowKit Go.OpenShut Go.Proofs.Ythafjgaleonbgaa.Aid
attribute [local go_sem] max_2 min_2 max2_i min2_i
theorem right_good (m f t : Int) (w : World) (h : Right m f t) : Calls Try.prog 22 #[.int .i64 m, .int .i64 f, .int .i64 t] w fun e w' => e = .returned (.bool true) ∧ w = w' := by
  obtain ⟨h1, h2, h3, h4, h5, h6⟩ := h
  go_enter Try.func22, Try.ntmps22
  go_wp2
  go_ret
  first | exact ⟨rfl, rfl⟩ | exact ⟨ret_bool (by simp; omega), rfl⟩
theorem right_bad (m f t : Int) (w : World) (h : ¬ Right m f t) : Calls Try.prog 22 #[.int .i64 m, .int .i64 f, .int .i64 t] w fun e w' => e = .returned (.bool false) ∧ w = w' := by
  have hc : m < 1 ∨ (1 ≤ m ∧ m > 2048) ∨ (1 ≤ m ∧ m ≤ 2048 ∧ t < m) ∨ (1 ≤ m ∧ m ≤ 2048 ∧ m ≤ t ∧ t > 1048576) ∨ (1 ≤ m ∧ m ≤ 2048 ∧ m ≤ t ∧ t ≤ 1048576 ∧ f < m) ∨ (1 ≤ m ∧ m ≤ 2048 ∧ m ≤ t ∧ t ≤ 1048576 ∧ m ≤ f ∧ f > t) := by
    unfold Right at h; omega
  clear h
  rcases hc with h1 | ⟨h1, h2⟩ | ⟨h1, h2, h3⟩ | ⟨h1, h2, h3, h4⟩ | ⟨h1, h2, h3, h4, h5⟩ | ⟨h1, h2, h3, h4, h5, h6⟩
  all_goals
    go_enter Try.func22, Try.ntmps22
    go_wp2
    go_ret
    first | exact ⟨rfl, rfl⟩ | exact ⟨ret_bool (by simp; omega), rfl⟩
theorem ref_new (m f t : Int) (w : World) : Calls Try.prog 23 #[.int .i64 m, .int .i64 f, .int .i64 t] w (RefGives w ⟨m, t, f, t, 0⟩) := by
  go_enter Try.func23, Try.ntmps23
  go_wp2
  refine bodyPost_ret (v := five ⟨m, t, f, t, 0⟩) (by simp [results, Try.results23, go_sem, five]) rfl ⟨rfl, ?_⟩
  exact (Below.refl _ w).alloc (Nat.le_refl _) _
theorem act_same (s : Win) (k a b : Int) (h : Ok s) : ract s k a b = act s k a b ∧ said s s k a = true := by
  constructor
  · unfold ract act
    obtain ⟨o1, o2, o3, o4, o5, o6, o7, o8, o9, o10⟩ := h
    have e : set_ s s.mss = { s with cwnd := s.mss } := by unfold set_; congr 1; omega
    rw [e]
  · unfold said; split <;> simp
theorem act_keeps (s : Win) (k a b : Int) : (act s k a b).mss = s.mss ∧ (act s k a b).most = s.most := by
  unfold act
  split
  · exact ⟨rfl, rfl⟩
  split
  · exact ⟨rfl, rfl⟩
  split
  · exact ⟨rfl, rfl⟩
  split
  · exact ⟨rfl, rfl⟩
  unfold grow
  split
  · exact ⟨rfl, rfl⟩
  unfold grow0 slowly careful
  split
  · exact ⟨rfl, rfl⟩
  split <;> exact ⟨rfl, rfl⟩
theorem does_same (g : Nat) (s : Win) (k a b : Int) (w : World) (hs : IsWin w g s) (ho : Ok s) (k0 : 0 ≤ k) (k1 : k ≤ 255) :
    Calls Try.prog 19 #[.pointer (some ⟨g, 0, none⟩), .agg #[.int .i64 s.mss, .int .i64 s.most, .int .i64 s.cwnd, .int .i64 s.thresh, .int .i64 s.count], .agg #[.int .u8 k, .int .i64 a, .int .i64 b]] w fun e w' => e = .returned (.tuple #[five (act s k a b), .bool true]) ∧ IsWin w' g (act s k a b) ∧ w.grownBy w' (some g) := by
  obtain ⟨e1, e2⟩ := act_same s k a b ho
  exact (does_calls g s s k a b w hs ho (xb_ok ho) k0 k1).mono fun _ _ ⟨h1, h2, h3⟩ => ⟨by rw [h1, e1, e2], h2, h3⟩
theorem below_set {B : Nat} {a w : World} (h : Below B a w) {p : Addr} (hp : B ≤ p.block) (u : Value) : Below B a (w.setCell p u) :=
  ⟨h.os, h.tape, h.output, by simpa [World.setCell] using h.size, fun i hi => (Below.heap_setCell w p u i (by omega)).trans (h.block i hi)⟩
abbrev put5 := @set5
theorem put5_ep {W : World} {g b : Nat} {x : Win} (h : IsWin W g x) (hb : g ≠ b) (s : Win) : IsWin (put5 W b s) g x := set5_far h hb s
/-- Within a round: the episode, the document's own in its box, the clone and what was. -/
structure Round (w W : World) (g b gc gw : Nat) (s : Win) : Prop where
  ep : IsWin W g s
  box : Blk W b 35 (cells s)
  cl : IsWin W gc s
  was : Blk W gw 35 (cells s)
  bel : Below w.heap.size w W
  n1 : gc ≠ g
  n2 : gc ≠ b
  n3 : gw ≠ g
  n4 : gw ≠ b
  gb : g < b
  wb : w.heap.size ≤ g
  wc : w.heap.size ≤ gc ∧ w.heap.size ≤ gw
theorem round_one {w wr w5 : World} {g b : Nat} {s : Win} (hE : IsWin wr g s) (hX : Blk wr b 35 (cells s)) (hB : Below w.heap.size w wr) (g5 : Below wr.heap.size wr.drew w5) (h5 : IsWin w5 wr.heap.size s)
    (z5 : w5.heap.size = wr.heap.size + 1) (hgb : g < b) (hwg : w.heap.size ≤ g) (hsz : b < wr.heap.size) :
    Round w (w5.alloc (.cells #[.int .i64 s.mss, .int .i64 s.most, .int .i64 s.cwnd, .int .i64 s.thresh, .int .i64 s.count] 35)) g b wr.heap.size (wr.heap.size + 1) s := by
  refine ⟨((Blk.drew hE).below g5 (by omega)).alloc _, ((Blk.drew hX).below g5 hsz).alloc _, Blk.alloc h5 _, ?_, ?_, by omega, by omega, by omega, by omega, hgb, hwg, by omega, by omega⟩
  · rw [← z5]
    exact Blk.new w5 _ _
  · exact (below_then (below_drew hB) hB.size g5).alloc (by omega) _
theorem put5_box {W : World} {b : Nat} {x : Win} (h : Blk W b 35 (cells x)) (s : Win) : Blk (put5 W b s) b 35 (cells s) := set5_blk h s
theorem put5_far {W : World} {g b : Nat} {t : TypeId} {cs : Array Value} (h : Blk W g t cs) (hb : g ≠ b) (s : Win) : Blk (put5 W b s) g t cs :=
  Blk.far (Blk.far (Blk.far (Blk.far (Blk.far h (p := ⟨b, 0, none⟩) hb _) (p := ⟨b, 1, none⟩) hb _) (p := ⟨b, 2, none⟩) hb _) (p := ⟨b, 3, none⟩) hb _) (p := ⟨b, 4, none⟩) hb _
theorem put5_below {W w : World} {b B : Nat} (h : Below B w W) (hb : B ≤ b) (s : Win) : Below B w (put5 W b s) :=
  below_set (below_set (below_set (below_set (below_set h (p := ⟨b, 0, none⟩) hb _) (p := ⟨b, 1, none⟩) hb _) (p := ⟨b, 2, none⟩) hb _) (p := ⟨b, 3, none⟩) hb _) (p := ⟨b, 4, none⟩) hb _
theorem round_two {w wr wa w5 : World} {g b : Nat} {s : Win} (hwa : wa = wr.alloc (.cells #[.int .i64 0, .int .i64 0, .int .i64 0, .int .i64 0, .int .i64 0] 35)) (hE : IsWin wr g s) (hX : Blk wr b 35 (cells s)) (hB : Below w.heap.size w wr)
    (g5 : Below wa.heap.size wa.drew w5) (h5 : IsWin w5 wa.heap.size s) (hgb : g < b) (hwg : w.heap.size ≤ g) (hsz : b < wr.heap.size) :
    Round w (put5 w5 wr.heap.size s) g b (wr.heap.size + 1) wr.heap.size s := by
  have e : wa.heap.size = wr.heap.size + 1 := by rw [hwa]; simp
  have a1 : Blk wa g 78 (cells s) := by rw [hwa]; exact Blk.alloc hE _
  have a2 : Blk wa b 35 (cells s) := by rw [hwa]; exact Blk.alloc hX _
  have a3 : Blk wa wr.heap.size 35 (cells zeroWin) := by rw [hwa]; exact Blk.new wr _ _
  have a4 : Below w.heap.size w wa := by rw [hwa]; exact hB.alloc hB.size _
  rw [e] at h5
  refine ⟨put5_ep ((Blk.drew a1).below g5 (by omega)) (by omega) _, put5_far ((Blk.drew a2).below g5 (by omega)) (by omega) _, put5_ep h5 (by omega) _, put5_box ((Blk.drew a3).below g5 (by omega)) _, ?_, by omega, by omega, by omega, by omega, hgb, hwg, by omega, by omega⟩
  exact put5_below (below_then (below_drew a4) a4.size g5) hB.size _
/-- Behind what is done: the document's new one lies in a box of its own. -/
structure Round2 (w W : World) (g b gc gw gx : Nat) (s q : Win) : Prop where
  ep : IsWin W g q
  box : Blk W b 35 (cells s)
  cl : IsWin W gc s
  was : Blk W gw 35 (cells s)
  bx : Blk W gx 35 (cells q)
  bel : Below w.heap.size w W
  n1 : gc ≠ g
  n2 : gc ≠ b
  n3 : gw ≠ g
  n4 : gw ≠ b
  n5 : gx ≠ g
  n6 : gx ≠ b
  gb : g < b
  wb : w.heap.size ≤ g
theorem round2_one {w W5 w6 : World} {g b gc gw : Nat} {s q : Win} (F : Round w W5 g b gc gw s) (h6 : IsWin w6 g q) (g6 : W5.drew.grownBy w6 (some g)) :
    Round2 w (w6.alloc (.cells #[.int .i64 q.mss, .int .i64 q.most, .int .i64 q.cwnd, .int .i64 q.thresh, .int .i64 q.count] 35)) g b gc gw w6.heap.size s q := by
  obtain ⟨f1, f2, f3, f4, f5, f6, f7, f8, f9, f10, f11, f12⟩ := F
  have l2 := f2.lt
  have l6 : W5.heap.size ≤ w6.heap.size := g6.size
  have fb := below_grown (below_drew f5) f5.size g6 f11
  exact ⟨Blk.alloc h6 _, ((Blk.drew f2).grown g6 (by simp; omega)).alloc _, ((Blk.drew f3).grown g6 (by simp; omega)).alloc _, ((Blk.drew f4).grown g6 (by simp; omega)).alloc _, Blk.new w6 _ _, fb.alloc fb.size _, f6, f7, f8, f9, by omega, by omega, f10, f11⟩
theorem round2_two {w W5 wa w6 : World} {g b gc gw : Nat} {s q : Win} (hwa : wa = W5.alloc (.cells #[.int .i64 0, .int .i64 0, .int .i64 0, .int .i64 0, .int .i64 0] 35)) (F : Round w W5 g b gc gw s) (h6 : IsWin w6 g q) (g6 : wa.drew.grownBy w6 (some g)) :
    Round2 w (put5 w6 W5.heap.size q) g b gc gw W5.heap.size s q := by
  obtain ⟨f1, f2, f3, f4, f5, f6, f7, f8, f9, f10, f11, f12⟩ := F
  have l2 := f2.lt
  have l3 := f3.lt
  have l4 := f4.lt
  have a2 : Blk wa b 35 (cells s) := by rw [hwa]; exact Blk.alloc f2 _
  have a3 : Blk wa gc 78 (cells s) := by rw [hwa]; exact Blk.alloc f3 _
  have a4 : Blk wa gw 35 (cells s) := by rw [hwa]; exact Blk.alloc f4 _
  have a5 : Blk wa W5.heap.size 35 (cells zeroWin) := by rw [hwa]; exact Blk.new W5 _ _
  have a6 : Below w.heap.size w wa := by rw [hwa]; exact f5.alloc f5.size _
  have fb := below_grown (below_drew a6) a6.size g6 f11
  exact ⟨put5_ep h6 (by omega) _, put5_far ((Blk.drew a2).grown g6 (by simp; omega)) (by omega) _, put5_ep ((Blk.drew a3).grown g6 (by simp; omega)) (by omega) _, put5_far ((Blk.drew a4).grown g6 (by simp; omega)) (by omega) _, put5_box ((Blk.drew a5).grown g6 (by simp; omega)) _, put5_below fb (by omega) _, f6, f7, f8, f9, by omega, by omega, f10, f11⟩
end Go.Proofs.Ythafjgaleonbgaa.Window
