/- Chapter 21 (buffer): Clone; known. -/
import Derived.Test.YtaokiocpfpdmkaaBufSame
set_option linter.unusedSimpArgs false
set_option linter.unusedVariables false
attribute [local go_sem ↓] Go.wp_at_zero Go.wp_at_succ
namespace Go.Proofs.Ytaokiocpfpdmkaa.Buff
open Go.BigFrame Go.RowKit Go.OpenShut Go.Proofs.Ytaokiocpfpdmkaa.Aid Go.Proofs.Ytaokiocpfpdmkaa.Spans
open Led (Kept kept_refl kept_set kept_drewN kept_drew kept_below below_kept)
theorem clone_none (w : World) : Calls Try.prog 45 #[.pointer Option.none] w (Gives w (.pointer Option.none)) := by
  go_enter Try.func45, Try.ntmps45
  go_wp2
  go_ret
  exact ⟨rfl, Below.refl _ _⟩
/-- A clone: a buffer of the call's own. -/
def Cloned (w : World) (b : Buf) (e : Ending) (w' : World) : Prop :=
  ∃ g rb c, e = .returned (.pointer (some ⟨g, 0, Option.none⟩)) ∧ IsBuf w' g rb ⟨b.una, b.fin, b.ring, c⟩ ∧ Below w.heap.size w w' ∧ w.heap.size ≤ g ∧ w.heap.size ≤ rb
set_option maxRecDepth 100000 in
set_option maxHeartbeats 4000000 in
theorem clone_calls (g rb : Nat) (b : Buf) (w : World) (h : IsBuf w g rb b) : Calls Try.prog 45 #[.pointer (some ⟨g, 0, Option.none⟩)] w (Cloned w b) := by
  have x0 : w.cell? ⟨g, 0, Option.none⟩ = some (.slice (some ⟨rb, 0, Option.none⟩) b.ring.length b.cap) := h.box.cell 0
  have x1 : w.cell? ⟨g, 1, Option.none⟩ = some (.int .i64 b.una) := h.box.cell 1
  have x2 : w.cell? ⟨g, 2, Option.none⟩ = some (.int .i64 b.fin) := h.box.cell 2
  have H := Lib.hid h
  have N := Lib.hid (h.below ((Below.refl _ w).alloc (Nat.le_refl _) (.cells (bcells rb b) 111)))
  have z0 : (w.alloc (.cells (bcells rb b) 111)).cell? ⟨g, 0, Option.none⟩ = some (.slice (some ⟨rb, 0, Option.none⟩) b.ring.length b.cap) := N.out.box.cell 0
  have B0 := Lib.hid (Blk.new w 111 (bcells rb b))
  have n0 := h.ok.n0
  have n1 := h.ok.n1
  have hne : ¬ g = w.heap.size := by have := h.box.lt; omega
  unfold bcells slc at z0 
  clear h
  go_enter Try.func45, Try.ntmps45
  go_wp2_with fail
  refine (bclone_calls rb b.ring.length b.cap b.ring _ N.out.ring rfl n1).mono ?_
  rintro e w1 ⟨v1, rfl, r1, b1, o1⟩
  obtain ⟨_, h0⟩ | ⟨rb', c', cur, rfl, q1, q2, q3, q4, q5⟩ := r1
  · rw [h0] at n0; simp at n0
  have r1 : RowOf 5 1 encB w1 (.slice (some ⟨rb', 0, Option.none⟩) b.ring.length c') b.ring := .inr ⟨rb', c', cur, rfl, q1, q2, q3, q4, q5⟩
  have B1 := Lib.hid (B0.out.below b1 B0.out.lt)
  have y0 : w1.cell? ⟨w.heap.size, 0, Option.none⟩ = some (.slice (some ⟨rb, 0, Option.none⟩) b.ring.length b.cap) := B1.out.cell 0
  have fz := B1.out.frozen
  have R1 := Lib.hid r1
  have hrb := o1 rb' (by simp [Value.ownBlock])
  simp at hrb
  have L1 := Lib.hid (below1 b1)
  clear r1 b1 o1 q1 q2 q3 q4 q5
  go_wp2
  go_ret
  refine ⟨w.heap.size, rb', c', rfl, ⟨(B1.out.set_ 0 _).eq (by simp [bcells, slc]), ?_, by omega, ⟨H.out.ok.n0, H.out.ok.n1, H.out.ok.u0, H.out.ok.u1, H.out.ok.u2, H.out.ok.u3⟩⟩, L1.out.setCell (Nat.le_refl _) _, Nat.le_refl _, by omega⟩
  exact R1.out.same fun k e => Below.heap_setCell _ _ _ k (fun e2 => by
    have e3 : rb' = k := by simpa [slc, Value.ownBlock] using e
    rw [← e3] at e2
    simp at e2
    omega)
theorem kept_own {B : Nat} {w0 w1 w2 : World} {g rb : Nat} {b : Buf} (hb : Below B w0 w1) (h : Kept w1 w2 g (slc rb b)) (hB : B ≤ w1.heap.size) (hg : B ≤ g) (hr : B ≤ rb) : Below B w0 w2 :=
  hb.trans ⟨h.os, h.tape, h.output, h.size, fun k hk => h.block k (by omega) (by omega) (fun e => absurd (show rb = k by simpa [slc, Value.ownBlock] using e) (by omega))⟩
theorem reps_lit {w : World} {h : Nat} {t : TypeId} {xs : List Int} (hb : Blk w h t (xs.map enc8).toArray) : Reps w (some ⟨h, 0, Option.none⟩) 1 encB xs := by
  intro i x hx
  refine ⟨_, rfl, hb.lt, fun j v hv => ?_⟩
  have hj : j = 0 := by
    have := (List.getElem?_eq_some_iff.1 hv).1
    simp [encB] at this
    exact this
  subst hj
  obtain rfl : enc8 x = v := by simpa [encB, enc8] using hv
  rw [add0, hb.cell]
  simp [hx]
theorem IsBuf.rlt {w : World} {g rb : Nat} {b : Buf} (h : IsBuf w g rb b) : rb < w.heap.size := h.ring.lt rb (by simp [slc, Value.ownBlock])
set_option maxRecDepth 100000 in
set_option maxHeartbeats 4000000 in
theorem known_calls (w : World) : Calls Try.prog 36 #[] w (Gives w (.bool true)) := by
  have K1 := Lib.hid (show Calls Try.prog 37 #[.int .i64 5, .int .i64 4] w (News w ⟨5, 5, [0, 0, 0, 0], 4⟩) from new_calls 5 4 w (by decide) (by decide) (by decide) (by decide))
  go_enter Try.func36, Try.ntmps36
  go_wp2_with fail
  refine K1.out.mono ?_
  rintro e w1 ⟨g, rb, rfl, h1, g1, g2, b1⟩
  have W1 := Lib.hid (show Calls Try.prog 38 #[.pointer (some ⟨g, 0, Option.none⟩), .slice (some ⟨w1.heap.size, 0, Option.none⟩) 3 3] (w1.alloc (.cells #[.int .u8 1, .int .u8 2, .int .u8 3] 5)) (Turns (w1.alloc (.cells #[.int .u8 1, .int .u8 2, .int .u8 3] 5)) g rb ⟨5, 8, [0, 1, 2, 3], 4⟩ (.int .i64 0)) from
    write_ok g rb ⟨5, 5, [0, 0, 0, 0], 4⟩ [1, 2, 3] _ 3 _ (h1.below ((Below.refl _ w1).alloc (Nat.le_refl _) _)) (by decide) (reps_lit (Blk.new w1 5 _)) (fun _ a e => by cases e; have := h1.rlt; simp only; omega) (by decide) (by decide))
  have B1 := Lib.hid (b1.alloc b1.size (.cells #[.int .u8 1, .int .u8 2, .int .u8 3] 5))
  clear h1 b1
  go_wp2_with fail
  refine W1.out.mono ?_
  rintro e w2 ⟨rfl, h2, k2⟩
  have B2 := Lib.hid (kept_own B1.out k2 B1.out.size g1 g2)
  have W2 := Lib.hid (show Calls Try.prog 39 #[.pointer (some ⟨g, 0, Option.none⟩), .int .i64 7] w2 (Turns w2 g rb ⟨7, 8, [0, 1, 2, 3], 4⟩ (.int .i64 0)) from free_ok g rb ⟨5, 8, [0, 1, 2, 3], 4⟩ 7 w2 h2 (by decide) (by decide))
  clear h2 k2 K1 W1
  go_wp2_with fail
  refine W2.out.mono ?_
  rintro e w3 ⟨rfl, h3, k3⟩
  have B3 := Lib.hid (kept_own B2.out k3 B2.out.size g1 g2)
  have W3 := Lib.hid (show Calls Try.prog 38 #[.pointer (some ⟨g, 0, Option.none⟩), .slice (some ⟨w3.heap.size, 0, Option.none⟩) 3 3] (w3.alloc (.cells #[.int .u8 4, .int .u8 5, .int .u8 6] 5)) (Turns (w3.alloc (.cells #[.int .u8 4, .int .u8 5, .int .u8 6] 5)) g rb ⟨7, 11, [4, 5, 6, 3], 4⟩ (.int .i64 0)) from
    write_ok g rb ⟨7, 8, [0, 1, 2, 3], 4⟩ [4, 5, 6] _ 3 _ (h3.below ((Below.refl _ w3).alloc (Nat.le_refl _) _)) (by decide) (reps_lit (Blk.new w3 5 _)) (fun _ a e => by cases e; have := h3.rlt; simp only; omega) (by decide) (by decide))
  have B3a := Lib.hid (B3.out.alloc B3.out.size (.cells #[.int .u8 4, .int .u8 5, .int .u8 6] 5))
  clear h3 k3 W2
  go_wp2_with fail
  refine W3.out.mono ?_
  rintro e w4 ⟨rfl, h4, k4⟩
  have B4 := Lib.hid (kept_own B3a.out k4 B3a.out.size g1 g2)
  have W4 := Lib.hid (show Calls Try.prog 40 #[.pointer (some ⟨g, 0, Option.none⟩), .agg #[.int .i64 7, .int .i64 11]] w4 (ReadOk w4 [3, 4, 5, 6]) from read_ok g rb ⟨7, 11, [4, 5, 6, 3], 4⟩ 7 11 4 w4 h4 (by decide) (by decide) (by decide) (by decide))
  have H4 := Lib.hid h4
  clear h4 k4 W3
  go_wp2_with fail
  refine W4.out.mono ?_
  rintro e w5 ⟨v, rfl, r5, b5, o5⟩
  obtain ⟨A, cA, rfl, _, hR⟩ := r5.reps encB_len
  simp only [List.length_cons, List.length_nil, Nat.zero_add, Nat.reduceAdd]
  have B5 := Lib.hid (below_then B4.out B4.out.size b5)
  have H5 := Lib.hid (H4.out.below b5)
  have W5 := Lib.hid (same_n A (some ⟨w5.heap.size, 0, Option.none⟩) cA 4 4 4 [3, 4, 5, 6] (w5.alloc (.cells #[.int .u8 3, .int .u8 4, .int .u8 5, .int .u8 6] 5)) (hR.below ((Below.refl _ w5).alloc (Nat.le_refl _) _)) (reps_lit (Blk.new w5 5 _)) rfl rfl (by decide))
  have B5a := Lib.hid (B5.out.alloc B5.out.size (.cells #[.int .u8 3, .int .u8 4, .int .u8 5, .int .u8 6] 5))
  have H5a := Lib.hid (H5.out.below ((Below.refl _ w5).alloc (Nat.le_refl _) (.cells #[.int .u8 3, .int .u8 4, .int .u8 5, .int .u8 6] 5)))
  clear r5 b5 o5 hR W4 H4
  go_wp2_with fail
  refine W5.out.mono ?_
  rintro e w6 ⟨rfl, b6⟩
  have B6 := Lib.hid (below_then B5a.out B5a.out.size b6)
  have H6 := Lib.hid (H5a.out.below b6)
  have W6 := Lib.hid (write_full g rb ⟨7, 11, [4, 5, 6, 3], 4⟩ (some ⟨w6.heap.size, 0, Option.none⟩) 1 1 (w6.alloc (.cells #[.int .u8 7] 5)) (H6.out.below ((Below.refl _ w6).alloc (Nat.le_refl _) _)) (by decide))
  have B6a := Lib.hid (B6.out.alloc B6.out.size (.cells #[.int .u8 7] 5))
  clear b6 W5
  go_wp2_with fail
  refine W6.out.mono ?_
  rintro e w7 ⟨rfl, n7, rfl⟩
  go_wp2
  go_ret
  exact ⟨rfl, below_drewN' B6a.out _⟩
end Go.Proofs.Ytaokiocpfpdmkaa.Buff
