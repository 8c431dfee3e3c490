/- What PrrPlays' rounds keep. -/
import Derived.Test.YtgahjgeopjdcfaaDoes
attribute [local go_sem ↓] Go.wp_at_zero Go.wp_at_succ
namespace Go.Proofs.Ytgahjgeopjdcfaa.Prr
open Go.RowKit Go.OpenShut Go.Proofs.Ytgahjgeopjdcfaa.Aid
attribute [local go_sem] max_2 min_2 max2_i min2_i
theorem right_bad (m f t : Int) (w : World) (h : ¬ Right m f t) : Calls Try.prog 14 #[.int .i64 m, .int .i64 f, .int .i64 t] w fun e w' => e = .returned (.bool false) ∧ w = w' := by
  have hc : m < 1 ∨ (¬ m < 1 ∧ m > 2048) ∨ (¬ m < 1 ∧ ¬ m > 2048 ∧ f < 0) ∨ (¬ m < 1 ∧ ¬ m > 2048 ∧ ¬ f < 0 ∧ f > 1048576) ∨ (¬ m < 1 ∧ ¬ m > 2048 ∧ ¬ f < 0 ∧ ¬ f > 1048576 ∧ t < 1) ∨ (¬ m < 1 ∧ ¬ m > 2048 ∧ ¬ f < 0 ∧ ¬ f > 1048576 ∧ ¬ t < 1 ∧ t > 1048576) := by
    unfold Right at h; omega
  clear h
  rcases hc with h1 | ⟨h1, h2⟩ | ⟨h1, h2, h3⟩ | ⟨h1, h2, h3, h4⟩ | ⟨h1, h2, h3, h4, h5⟩ | ⟨h1, h2, h3, h4, h5, h6⟩
  all_goals
    go_enter Try.func14, Try.ntmps14
    go_wp2
    go_ret
    first | exact ⟨rfl, rfl⟩ | exact ⟨by simp; omega, rfl⟩
/-- Within a round: the episode, the document's own in its box, the clone and what was. -/
structure Round (w W : World) (g b gc gw : Nat) (s : Ep) : Prop where
  ep : IsEp W g s
  box : Blk W b 40 (cells s)
  cl : IsEp W gc s
  was : Blk W gw 40 (cells s)
  bel : Below w.heap.size w W
  n1 : gc ≠ g
  n2 : gc ≠ b
  n3 : gw ≠ g
  n4 : gw ≠ b
  gb : g < b
  wb : w.heap.size ≤ g
  wc : w.heap.size ≤ gc ∧ w.heap.size ≤ gw
theorem round_one {w wr w5 : World} {g b : Nat} {s : Ep} (hE : IsEp wr g s) (hX : Blk wr b 40 (cells s)) (hB : Below w.heap.size w wr) (g5 : Below wr.heap.size wr.drew w5) (h5 : IsEp w5 wr.heap.size s)
    (z5 : w5.heap.size = wr.heap.size + 1) (hgb : g < b) (hwg : w.heap.size ≤ g) (hsz : b < wr.heap.size) :
    Round w (w5.alloc (.cells #[.int .i64 s.mss, .int .i64 s.thresh, .int .i64 s.whole, .int .i64 s.delivered, .int .i64 s.out, .int .i64 s.left, .bool s.began] 40)) g b wr.heap.size (wr.heap.size + 1) s := by
  refine ⟨((Blk.drew hE).below g5 (by omega)).alloc _, ((Blk.drew hX).below g5 hsz).alloc _, Blk.alloc h5 _, ?_, ?_, by omega, by omega, by omega, by omega, hgb, hwg, by omega, by omega⟩
  · rw [← z5]
    exact Blk.new w5 _ _
  · exact (below_then (below_drew hB) hB.size g5).alloc (by omega) _
theorem put7_box {W : World} {b : Nat} {x : Ep} (h : Blk W b 40 (cells x)) (s : Ep) : Blk (put7 W b s) b 40 (cells s) := by
  have h2 := ((((((h.set_ 0 (.int .i64 s.mss)).set_ 1 (.int .i64 s.thresh)).set_ 2 (.int .i64 s.whole)).set_ 3 (.int .i64 s.delivered)).set_ 4 (.int .i64 s.out)).set_ 5 (.int .i64 s.left)).set_ 6 (.bool s.began)
  have e : ((((((((cells x).setIfInBounds 0 (.int .i64 s.mss)).setIfInBounds 1 (.int .i64 s.thresh)).setIfInBounds 2 (.int .i64 s.whole)).setIfInBounds 3 (.int .i64 s.delivered)).setIfInBounds 4 (.int .i64 s.out)).setIfInBounds 5 (.int .i64 s.left)).setIfInBounds 6 (.bool s.began)) = cells s := by simp [cells]
  rw [e] at h2
  exact h2
theorem put7_far {W : World} {g b : Nat} {t : TypeId} {cs : Array Value} (h : Blk W g t cs) (hb : g ≠ b) (s : Ep) : Blk (put7 W b s) g t cs :=
  Blk.far (Blk.far (Blk.far (Blk.far (Blk.far (Blk.far (Blk.far h (p := ⟨b, 0, none⟩) hb _) (p := ⟨b, 1, none⟩) hb _) (p := ⟨b, 2, none⟩) hb _) (p := ⟨b, 3, none⟩) hb _) (p := ⟨b, 4, none⟩) hb _) (p := ⟨b, 5, none⟩) hb _) (p := ⟨b, 6, none⟩) hb _
theorem put7_below {W w : World} {b B : Nat} (h : Below B w W) (hb : B ≤ b) (s : Ep) : Below B w (put7 W b s) :=
  below_set (below_set (below_set (below_set (below_set (below_set (below_set h (p := ⟨b, 0, none⟩) hb _) (p := ⟨b, 1, none⟩) hb _) (p := ⟨b, 2, none⟩) hb _) (p := ⟨b, 3, none⟩) hb _) (p := ⟨b, 4, none⟩) hb _) (p := ⟨b, 5, none⟩) hb _) (p := ⟨b, 6, none⟩) hb _
theorem round_two {w wr wa w5 : World} {g b : Nat} {s : Ep} (hwa : wa = wr.alloc (.cells #[.int .i64 0, .int .i64 0, .int .i64 0, .int .i64 0, .int .i64 0, .int .i64 0, .bool false] 40)) (hE : IsEp wr g s) (hX : Blk wr b 40 (cells s)) (hB : Below w.heap.size w wr)
    (g5 : Below wa.heap.size wa.drew w5) (h5 : IsEp w5 wa.heap.size s) (hgb : g < b) (hwg : w.heap.size ≤ g) (hsz : b < wr.heap.size) :
    Round w (put7 w5 wr.heap.size s) g b (wr.heap.size + 1) wr.heap.size s := by
  have e : wa.heap.size = wr.heap.size + 1 := by rw [hwa]; simp
  have a1 : Blk wa g 47 (cells s) := by rw [hwa]; exact Blk.alloc hE _
  have a2 : Blk wa b 40 (cells s) := by rw [hwa]; exact Blk.alloc hX _
  have a3 : Blk wa wr.heap.size 40 (cells zero) := by rw [hwa]; exact Blk.new wr _ _
  have a4 : Below w.heap.size w wa := by rw [hwa]; exact hB.alloc hB.size _
  rw [e] at h5
  refine ⟨put7_ep ((Blk.drew a1).below g5 (by omega)) (by omega) _, put7_far ((Blk.drew a2).below g5 (by omega)) (by omega) _, put7_ep h5 (by omega) _, put7_box ((Blk.drew a3).below g5 (by omega)) _, ?_, by omega, by omega, by omega, by omega, hgb, hwg, by omega, by omega⟩
  exact put7_below (below_then (below_drew a4) a4.size g5) hB.size _
/-- Behind what is done: the document's new one lies in a box of its own. -/
structure Round2 (w W : World) (g b gc gw gx : Nat) (s q : Ep) : Prop where
  ep : IsEp W g q
  box : Blk W b 40 (cells s)
  cl : IsEp W gc s
  was : Blk W gw 40 (cells s)
  bx : Blk W gx 40 (cells q)
  bel : Below w.heap.size w W
  n1 : gc ≠ g
  n2 : gc ≠ b
  n3 : gw ≠ g
  n4 : gw ≠ b
  n5 : gx ≠ g
  n6 : gx ≠ b
  gb : g < b
  wb : w.heap.size ≤ g
theorem round2_one {w W5 w6 : World} {g b gc gw : Nat} {s q : Ep} (F : Round w W5 g b gc gw s) (h6 : IsEp w6 g q) (g6 : W5.drew.grownBy w6 (some g)) :
    Round2 w (w6.alloc (.cells #[.int .i64 q.mss, .int .i64 q.thresh, .int .i64 q.whole, .int .i64 q.delivered, .int .i64 q.out, .int .i64 q.left, .bool q.began] 40)) g b gc gw w6.heap.size s q := by
  obtain ⟨f1, f2, f3, f4, f5, f6, f7, f8, f9, f10, f11, f12⟩ := F
  have l2 := f2.lt
  have l6 : W5.heap.size ≤ w6.heap.size := g6.size
  have fb := below_grown (below_drew f5) f5.size g6 f11
  exact ⟨Blk.alloc h6 _, ((Blk.drew f2).grown g6 (by simp; omega)).alloc _, ((Blk.drew f3).grown g6 (by simp; omega)).alloc _, ((Blk.drew f4).grown g6 (by simp; omega)).alloc _, Blk.new w6 _ _, fb.alloc fb.size _, f6, f7, f8, f9, by omega, by omega, f10, f11⟩
theorem round2_two {w W5 wa w6 : World} {g b gc gw : Nat} {s q : Ep} (hwa : wa = W5.alloc (.cells #[.int .i64 0, .int .i64 0, .int .i64 0, .int .i64 0, .int .i64 0, .int .i64 0, .bool false] 40)) (F : Round w W5 g b gc gw s) (h6 : IsEp w6 g q) (g6 : wa.drew.grownBy w6 (some g)) :
    Round2 w (put7 w6 W5.heap.size q) g b gc gw W5.heap.size s q := by
  obtain ⟨f1, f2, f3, f4, f5, f6, f7, f8, f9, f10, f11, f12⟩ := F
  have l2 := f2.lt
  have l3 := f3.lt
  have l4 := f4.lt
  have a2 : Blk wa b 40 (cells s) := by rw [hwa]; exact Blk.alloc f2 _
  have a3 : Blk wa gc 47 (cells s) := by rw [hwa]; exact Blk.alloc f3 _
  have a4 : Blk wa gw 40 (cells s) := by rw [hwa]; exact Blk.alloc f4 _
  have a5 : Blk wa W5.heap.size 40 (cells zero) := by rw [hwa]; exact Blk.new W5 _ _
  have a6 : Below w.heap.size w wa := by rw [hwa]; exact f5.alloc f5.size _
  have fb := below_grown (below_drew a6) a6.size g6 f11
  exact ⟨put7_ep h6 (by omega) _, put7_far ((Blk.drew a2).grown g6 (by simp; omega)) (by omega) _, put7_ep ((Blk.drew a3).grown g6 (by simp; omega)) (by omega) _, put7_far ((Blk.drew a4).grown g6 (by simp; omega)) (by omega) _, put7_box ((Blk.drew a5).grown g6 (by simp; omega)) _, put7_below fb (by omega) _, f6, f7, f8, f9, by omega, by omega, f10, f11⟩
end Go.Proofs.Ytgahjgeopjdcfaa.Prr
