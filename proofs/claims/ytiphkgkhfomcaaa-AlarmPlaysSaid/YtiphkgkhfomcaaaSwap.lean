/- Chapter 13 (alarm): Swap. -/
import Derived.Test.YtiphkgkhfomcaaaRings
import Derived.Deep.DeepCutAuto
import Derived.Deep.RegionHeld3
import Derived.Deep.DrawnRows
set_option linter.unusedSimpArgs false
set_option linter.unusedVariables false
attribute [local go_sem ↓] Go.wp_at_zero Go.wp_at_succ
namespace Go.Proofs.Ytiphkgkhfomcaaa.Alarm
open Go.BigFrame Go.RowKit Go.OpenShut Go.Proofs.Ytiphkgkhfomcaaa.Aid Go.Proofs.Ytiphkgkhfomcaaa.DMap Go.Proofs.Ytiphkgkhfomcaaa.Heap
def Swapped (w : World) (R mb : Nat) (fv : Value) (l' : List Ring) (e : Ending) (w' : World) : Prop := e = .returned (.tuple #[]) ∧ (∃ m', IsRings w' R mb fv m' l') ∧ Kp (rb R mb fv) w w'
theorem swap_keep {W W' : World} {R mb b n cap : Nat} {l : List Ring} (a1 : Blk W R 93 #[.slice (some ⟨b, 0, Option.none⟩) n cap, .map (some mb)]) (a2 : RowOf 100 2 encR W (.slice (some ⟨b, 0, Option.none⟩) n cap) l) (hg : W.grownBy W' (some mb)) (hR : R ≠ mb) (hb : b ≠ mb) :
    Blk W' R 93 #[.slice (some ⟨b, 0, Option.none⟩) n cap, .map (some mb)] ∧ RowOf 100 2 encR W' (.slice (some ⟨b, 0, Option.none⟩) n cap) l :=
  ⟨a1.grown hg (fun e => hR (by simpa using e)), a2.same (fun k hk => hg.block k (a2.lt k hk) (fun e => by
    obtain rfl : b = k := by simpa [Value.ownBlock] using hk
    exact hb (by simpa using e)))⟩
set_option maxHeartbeats 1000000 in
theorem swap_first {w w3 : World} {R mb b cap i j : Nat} {m : Int → Option Value} {l : List Ring} {ai ni aj nj : Int} {n : Nat} (h : IsRings w R mb (.slice (some ⟨b, 0, Option.none⟩) n cap) m l) (hi : i < l.length) (hj : j < l.length) (hxi : g l i = Ring.mk ai ni) (hxj : g l j = Ring.mk aj nj)
    (hw3 : w3 = (((((w.setCell ⟨b, i * 2, Option.none⟩ (.int .i64 aj)).setCell ⟨b, i * 2 + 1, Option.none⟩ (.int .i64 nj)).setCell ⟨b, j * 2, Option.none⟩ (.int .i64 ai)).setCell ⟨b, j * 2 + 1, Option.none⟩ (.int .i64 ni)).drew)) :
    Blk w3 R 93 #[.slice (some ⟨b, 0, Option.none⟩) n cap, .map (some mb)] ∧ RowOf 100 2 encR w3 (.slice (some ⟨b, 0, Option.none⟩) n cap) (swap l i j) ∧ MapOf w3 mb (.int .i64 0) m l.length ∧ Kp (rb R mb (.slice (some ⟨b, 0, Option.none⟩) n cap)) w w3 ∧ w3.heap.size = w.heap.size := by
  have hRb : R ≠ b := fun e => h.fg (by rw [e]; rfl)
  have hmb : mb ≠ b := fun e => h.fm (by rw [e]; rfl)
  have r1 := row_ring h.row i ⟨aj, nj⟩ hi
  have r2 := row_ring r1 j ⟨ai, ni⟩ (by simpa using hj)
  simp only at r1 r2
  have e : (l.set i ⟨aj, nj⟩).set j ⟨ai, ni⟩ = swap l i j := by unfold swap; rw [hxi, hxj]
  rw [e] at r2
  have X := (((h.box.far (p := ⟨b, i * 2, Option.none⟩) hRb (.int .i64 aj)).far (p := ⟨b, i * 2 + 1, Option.none⟩) hRb (.int .i64 nj)).far (p := ⟨b, j * 2, Option.none⟩) hRb (.int .i64 ai)).far (p := ⟨b, j * 2 + 1, Option.none⟩) hRb (.int .i64 ni)
  have M := (((h.map.set_ (p := ⟨b, i * 2, Option.none⟩) hmb (.int .i64 aj)).set_ (p := ⟨b, i * 2 + 1, Option.none⟩) hmb (.int .i64 nj)).set_ (p := ⟨b, j * 2, Option.none⟩) hmb (.int .i64 ai)).set_ (p := ⟨b, j * 2 + 1, Option.none⟩) hmb (.int .i64 ni)
  subst hw3
  refine ⟨X, r2, M, ⟨rfl, rfl, rfl, by simp [World.setCell, World.drew], fun k hk hB => ?_⟩, by simp [World.setCell, World.drew]⟩
  have hkb : k ≠ b := fun e => hB (.inr (.inr (by rw [e]; rfl)))
  exact (Below.heap_setCell _ _ _ k hkb).trans ((Below.heap_setCell _ _ _ k hkb).trans ((Below.heap_setCell _ _ _ k hkb).trans (Below.heap_setCell _ _ _ k hkb)))
theorem Kp.grown {B : Nat → Prop} {w w1 w2 : World} {mb : Nat} (h : Kp B w w1) (hg : w1.grownBy w2 (some mb)) (hB : B mb) : Kp B w w2 :=
  have hk : ∀ k, ¬ B k → some k ≠ some mb := fun k h2 e => h2 (by injection e with e; rw [e]; exact hB)
  ⟨hg.os.trans h.os, hg.tape.trans h.tape, hg.output.trans h.output, Nat.le_trans h.size hg.size, fun k h1 h2 => (hg.block k (Nat.lt_of_lt_of_le h1 h.size) (hk k h2)).trans (h.block k h1 h2)⟩
theorem swap_end {w w3 w4 w5 : World} {R mb i j : Nat} {fv : Value} {m : Int → Option Value} {l : List Ring} {ai ni aj nj : Int} (h : IsRings w R mb fv m l) (hi : i < l.length) (hj : j < l.length) (hij : i ≠ j) (hxi : g l i = Ring.mk ai ni) (hxj : g l j = Ring.mk aj nj)
    (a4 : Kp (rb R mb fv) w w3) (g4 : w3.drew.grownBy w4 (some mb)) (g5 : w4.grownBy w5 (some mb)) (x5 : Blk w5 R 93 #[fv, .map (some mb)]) (y5 : RowOf 100 2 encR w5 fv (swap l i j)) (b5 : MapOf w5 mb (.int .i64 0) (put (put m nj (.int .i64 i)) ni (.int .i64 j)) l.length) :
    Swapped w R mb fv (swap l i j) (.returned (.tuple #[])) w5 := by
  have S := swap_sw hi hj
  have P := plc_swap h.plc hi hj hij
  rw [S.a, S.b, hxi, hxj] at P
  refine ⟨rfl, ⟨_, x5, y5, by rw [swap_length]; exact b5, P, h.gm, h.fg, h.fm, by rw [swap_length]; exact h.len, fun k hk => ?_⟩, ?_⟩
  · rw [swap_length] at hk
    by_cases e : k = i
    · subst e; rw [S.a]; exact h.fit j hj
    · by_cases e2 : k = j
      · subst e2; rw [S.b]; exact h.fit i hi
      · rw [S.r k e e2]; exact h.fit k hk
  · have a4' : Kp (rb R mb fv) w w3.drew := ⟨a4.os, a4.tape, a4.output, a4.size, a4.block⟩
    exact (a4'.grown g4 (.inr (.inl rfl))).grown g5 (.inr (.inl rfl))
set_option maxRecDepth 100000 in
set_option maxHeartbeats 4000000 in
theorem swap_calls (R mb : Nat) (fv : Value) (m : Int → Option Value) (l : List Ring) (i j : Nat) (w : World) (h : IsRings w R mb fv m l) (hi : i < l.length) (hj : j < l.length) (hij : i ≠ j) :
    Calls Try.prog 113 #[.pointer (some ⟨R, 0, Option.none⟩), .int .i64 i, .int .i64 j] w (Swapped w R mb fv (swap l i j)) := by
  have H := Lib.hid h
  obtain ⟨b, cap, rfl, hcap, hcm⟩ : ∃ b cap, fv = .slice (some ⟨b, 0, Option.none⟩) l.length cap ∧ l.length ≤ cap ∧ cap ≤ 9223372036854775807 := by
    obtain ⟨_, h0⟩ | ⟨b, cap, cur, h0, h1, h2, _⟩ := h.row
    · rw [h0] at hi; simp at hi
    · exact ⟨b, cap, h0, h1, h2⟩
  have hlen := h.len
  have c0 := h.box.cell 0
  have c1 := h.box.cell 1
  simp at c0 c1
  obtain ⟨i0, i1⟩ := row_cells h.row i hi
  obtain ⟨j0, j1⟩ := row_cells h.row j hj
  have fz := row_frozen h.row
  have q0 : (0 : Int) ≤ (i : Int) := by omega
  have q1 : (i : Int) < (l.length : Int) := by omega
  have q2 : (0 : Int) ≤ (j : Int) := by omega
  have q3 : (j : Int) < (l.length : Int) := by omega
  have hRb : R ≠ b := fun e => h.fg (by rw [e]; rfl)
  have ne1 : ¬ R = b := hRb
  have ne2 : ¬ b = R := fun e => hRb e.symm
  have ne3 : ¬ i * 2 = j * 2 := by omega
  have ne4 : ¬ j * 2 = i * 2 := by omega
  have ne5 : ¬ i * 2 = j * 2 + 1 := by omega
  have ne6 : ¬ j * 2 = i * 2 + 1 := by omega
  have ne7 : ¬ j * 2 + 1 = i * 2 := by omega
  have ne8 : ¬ i * 2 + 1 = j * 2 := by omega
  have ne9 : ¬ j * 2 + 1 = i * 2 + 1 := by omega
  have ne10 : ¬ i * 2 + 1 = j * 2 + 1 := by omega
  clear h
  generalize hxi : g l i = xi at *
  generalize hxj : g l j = xj at *
  obtain ⟨ai, ni⟩ := xi
  obtain ⟨aj, nj⟩ := xj
  simp only at i0 i1 j0 j1
  generalize hn : l.length = n at *
  go_enter Try.func113, Try.ntmps113
  go_upto_region 0 with fail
  go_region
  obtain ⟨w3, hw3⟩ : ∃ w3, w3 = (((((w.setCell ⟨b, i * 2, Option.none⟩ (.int .i64 aj)).setCell ⟨b, i * 2 + 1, Option.none⟩ (.int .i64 nj)).setCell ⟨b, j * 2, Option.none⟩ (.int .i64 ai)).setCell ⟨b, j * 2 + 1, Option.none⟩ (.int .i64 ni)).drew) := ⟨_, rfl⟩
  have A := swap_first H.out (by rw [hn]; exact hi) (by rw [hn]; exact hj) hxi hxj hw3
  rw [← hw3]
  clear hw3 c0 c1 i0 i1 j0 j1 fz
  obtain ⟨a1, a2, a3, a4, a5⟩ := A
  have c0 := a1.cell 0
  have c1 := a1.cell 1
  simp at c0 c1
  have L2 := swap_length l i j
  have S := swap_sw (l := l) (i := i) (j := j) (by rw [hn]; exact hi) (by rw [hn]; exact hj)
  have e1 := row_cells a2 i (by rw [L2, hn]; exact hi)
  have e2 := row_cells a2 j (by rw [L2, hn]; exact hj)
  rw [S.a, hxj] at e1
  rw [S.b, hxi] at e2
  have i1 := e1.2
  have j1 := e2.2
  simp only at i1 j1
  have fi := H.out.fit i (by rw [hn]; exact hi)
  have fj := H.out.fit j (by rw [hn]; exact hj)
  rw [hxi] at fi
  rw [hxj] at fj
  have pi := H.out.plc.at_ i (by rw [hn]; exact hi)
  have pj := H.out.plc.at_ j (by rw [hn]; exact hj)
  rw [hxi] at pi
  rw [hxj] at pj
  simp only at fi fj pi pj
  have zz : ∀ W : World, (zeroValue 3).run Try.prog W = .ok (.int .i64 0) W := fun W => by kernel_rfl
  have a3 : MapOf w3.drew mb (.int .i64 0) m l.length := a3
  obtain ⟨v1, s1, m1, k1⟩ := entry a3 Try.underlying90 (zz w3.drew) fj (by rw [pj]; rfl)
  obtain ⟨w4, r4, b4, g4, z4⟩ := a3.store Try.underlying90 (by rw [hn]; unfold maxLen; omega) fj (.int .i64 i)
  rw [pj] at b4
  simp only [Option.isSome_some, if_true] at b4
  have hs4 : (put m nj (.int .i64 i) ni).isSome = true := by
    unfold put
    split
    · rfl
    · rw [pi]; rfl
  obtain ⟨v2, s2, m2, k2⟩ := entry b4 Try.underlying90 (zz w4) fi hs4
  obtain ⟨w5, r5, b5, g5, z5⟩ := b4.store Try.underlying90 (by rw [hn]; unfold maxLen; omega) fi (.int .i64 j)
  rw [hs4] at b5
  simp only [if_true] at b5
  have hmb : mb ≠ b := fun e => H.out.fm (by rw [e]; rfl)
  obtain ⟨x4, y4⟩ := swap_keep (W := w3.drew) a1 a2 g4 H.out.gm (fun e => hmb e.symm)
  obtain ⟨x5, y5⟩ := swap_keep x4 y4 g5 H.out.gm (fun e => hmb e.symm)
  have c04 := x4.cell 0
  have c14 := x4.cell 1
  have c05 := x5.cell 0
  have c15 := x5.cell 1
  simp at c04 c14 c05 c15
  have i14 := (row_cells y4 i (by rw [L2, hn]; exact hi)).2
  have j14 := (row_cells y4 j (by rw [L2, hn]; exact hj)).2
  have i15 := (row_cells y5 i (by rw [L2, hn]; exact hi)).2
  have j15 := (row_cells y5 j (by rw [L2, hn]; exact hj)).2
  rw [S.a, hxj] at i14 i15
  rw [S.b, hxi] at j14 j15
  simp only at i14 j14 i15 j15
  have HZ := Lib.hid (And.intro x5 (And.intro y5 (And.intro a4 (And.intro a5 (And.intro g4 (And.intro z4 (And.intro g5 (And.intro z5 b5))))))))
  clear x4 y4 x5 y5 hmb
  have HZ0 := Lib.hid (And.intro a1 a2)
  clear a1 a2 a3 a4 a5 g4 z4 b4 g5 z5 b5 e1 e2 S fi fj pi pj zz hs4 L2
  go_upto_region 1 with fail
  go_region_held3 (fun W => W.cell? ⟨R, 0, Option.none⟩ = some (.slice (some ⟨b, 0, Option.none⟩) n cap) ∧ W.cell? ⟨R, 1, Option.none⟩ = some (.map (some mb)) ∧ W.cell? ⟨b, i * 2 + 1, Option.none⟩ = some (.int .i64 nj) ∧ W.cell? ⟨b, j * 2 + 1, Option.none⟩ = some (.int .i64 ni)) (go_keep) (fail)
  go_wp2
  obtain ⟨x5, y5, a4, a5, g4, z4, g5, z5, b5⟩ := HZ.out
  exact bodyPost_end (v := .tuple #[]) (by simp [results, Try.results113, go_sem]; done) rfl (swap_end H.out (by rw [hn]; exact hi) (by rw [hn]; exact hj) hij hxi hxj a4 g4 g5 x5 y5 b5)
end Go.Proofs.Ytiphkgkhfomcaaa.Alarm
