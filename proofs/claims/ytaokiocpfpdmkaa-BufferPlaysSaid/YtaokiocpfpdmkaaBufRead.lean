/- Chapter 21 (buffer): Read. -/
import Derived.Test.YtaokiocpfpdmkaaBufCat
import Derived.Test.YtaokiocpfpdmkaaRegrown
set_option linter.unusedSimpArgs false
set_option linter.unusedVariables false
attribute [local go_sem ↓] Go.wp_at_zero Go.wp_at_succ
namespace Go.Proofs.Ytaokiocpfpdmkaa.Buff
open Go.BigFrame Go.RowKit Go.OpenShut Go.Proofs.Ytaokiocpfpdmkaa.Aid Go.Proofs.Ytaokiocpfpdmkaa.Spans
open Led (Kept kept_refl kept_set kept_drewN kept_drew kept_below below_kept)
/-- What a ring holds from an offset on. -/
def window (b : Buf) (off : Int) (n : Nat) : List Int := (b.ring.drop (at_ b off)).take (upto_ b off n) ++ b.ring.take (n - upto_ b off n)
theorem reps_piece {w : World} {rb N cp : Nat} {L : List Int} (hr : RowOf 5 1 encB w (.slice (some ⟨rb, 0, Option.none⟩) N cp) L) (o k : Nat) (h : o + k ≤ L.length) :
    Reps w (if k = 0 then some ⟨rb, 0, Option.none⟩ else some ⟨rb, o, Option.none⟩) 1 encB ((L.drop o).take k) := by
  obtain ⟨A, c, e, hc, hR⟩ := hr.reps encB_len
  injection e with e1 e2 e3
  subst e1
  intro i x hx
  have hi : i < k := by
    have := (List.getElem?_eq_some_iff.1 hx).1
    rw [List.length_take] at this
    omega
  rw [List.getElem?_take_of_lt hi, List.getElem?_drop] at hx
  obtain ⟨ad, e1, hlt, hcell⟩ := hR (o + i) x hx
  obtain rfl : (⟨rb, 0, Option.none⟩ : Addr) = ad := by simpa using e1
  refine ⟨⟨rb, o, Option.none⟩, by rw [if_neg (by omega)], hlt, fun j v hv => ?_⟩
  have := hcell j v hv
  rw [show (⟨rb, o, Option.none⟩ : Addr) = (⟨rb, 0, Option.none⟩ : Addr).add o from (add0 rb o).symm, Go.Addr.add_add]
  rw [← this]
  congr 2
  omega
def ReadOk (w : World) (xs : List Int) (e : Ending) (w' : World) : Prop := ∃ v, e = .returned (.tuple #[v, .int .i64 0]) ∧ RowOf 5 1 encB w' v xs ∧ Below w.heap.size w w' ∧ ∀ k, v.ownBlock = some k → w.heap.size ≤ k
theorem read_none (a b : Int) (w : World) : Calls Try.prog 40 #[.pointer Option.none, .agg #[.int .i64 a, .int .i64 b]] w (Gives w (.tuple #[.slice Option.none 0 0, .int .i64 1])) := by
  go_enter Try.func40, Try.ntmps40
  go_wp2
  go_ret2
  exact ⟨rfl, (Below.refl _ w).alloc (Nat.le_refl _) _⟩
set_option maxRecDepth 100000 in
set_option maxHeartbeats 4000000 in
theorem read_bad (g rb : Nat) (b : Buf) (s : Span) (w : World) (h : IsBuf w g rb b) (hs : ¬ May s ∨ s.lo < b.una ∨ b.fin < s.hi) : Calls Try.prog 40 #[.pointer (some ⟨g, 0, Option.none⟩), .agg #[.int .i64 s.lo, .int .i64 s.hi]] w (Gives w (.tuple #[.slice Option.none 0 0, .int .i64 3])) := by
  obtain ⟨W, hW⟩ : ∃ W, W = w.alloc (.cells #[.int .i64 s.lo, .int .i64 s.hi] 26) := ⟨_, rfl⟩
  have X : Blk W w.heap.size 26 #[.int .i64 s.lo, .int .i64 s.hi] := by rw [hW]; exact Blk.new w _ _
  have B := Lib.hid (show Below w.heap.size w W by rw [hW]; exact (Below.refl _ w).alloc (Nat.le_refl _) _)
  have Y := Lib.hid (h.below B.out)
  have e0 : ∀ d os, (Go.Sort.grow (redrawn W d) os).cell? ⟨w.heap.size, 0, Option.none⟩ = some (.int .i64 s.lo) := fun d os => (X.regrown d os).cell 0
  have e1 : ∀ d os, (Go.Sort.grow (redrawn W d) os).cell? ⟨w.heap.size, 1, Option.none⟩ = some (.int .i64 s.hi) := fun d os => (X.regrown d os).cell 1
  have e2 : ∀ d os, (Go.Sort.grow (redrawn W d) os).cell? ⟨g, 1, Option.none⟩ = some (.int .i64 b.una) := fun d os => (Y.out.box.regrown d os).cell 1
  have e3 : ∀ d os, (Go.Sort.grow (redrawn W d) os).cell? ⟨g, 2, Option.none⟩ = some (.int .i64 b.fin) := fun d os => (Y.out.box.regrown d os).cell 2
  have M := Lib.hid (fun d os => Calls.regrown_of (may_calls s (Go.Sort.grow (redrawn W d) os)))
  have cases : (decide (May s) = false) ∨ (decide (May s) = true ∧ decide (s.lo < b.una) = true) ∨ (decide (May s) = true ∧ decide (s.lo < b.una) = false ∧ decide (b.fin < s.hi) = true) := by
    by_cases h1 : May s
    · by_cases h2 : s.lo < b.una
      · exact .inr (.inl ⟨decide_eq_true h1, decide_eq_true h2⟩)
      · exact .inr (.inr ⟨decide_eq_true h1, decide_eq_false h2, decide_eq_true (hs.resolve_left (fun h => h h1) |>.resolve_left h2)⟩)
    · exact .inl (decide_eq_false h1)
  clear X h hs
  rcases cases with h1 | ⟨h1, h2⟩ | ⟨h1, h2, h3⟩
  all_goals
    rw [h1] at M
    clear h1
    go_enter Try.func40, Try.ntmps40
    go_upto_region 3 with fail
    rw [← hW]
    clear hW
    refine wp_region_quiet_below (by kernel_rfl) (by kernel_rfl) ?_
    repeat (go_big_quiet_step (exact M.out _ _))
    refine wpQuiet_nil ?_
    rintro _ ⟨⟨nq, osq⟩, rfl⟩
    go_wp2
    go_ret2
    exact ⟨rfl, B.out.trans ((below_regrown W nq osq).mono B.out.size)⟩
theorem len_may {s : Span} (h : May s) : len s = s.hi - s.lo := by
  unfold len Spans.plain
  by_cases h1 : s.lo = s.hi
  · rw [if_neg (fun h2 => h2.2 h1)]; simp only; omega
  · rw [if_pos ⟨h, h1⟩]
theorem piece_slice (rb o k : Nat) : piece rb o k = .slice (if k = 0 then some ⟨rb, 0, Option.none⟩ else some ⟨rb, o, Option.none⟩) k k := rfl
set_option maxRecDepth 100000 in
set_option maxHeartbeats 4000000 in
theorem read_ok (g rb : Nat) (b : Buf) (lo hi : Int) (n : Nat) (w : World) (h : IsBuf w g rb b) (h1 : b.una ≤ lo) (h2 : lo ≤ hi) (h3 : hi ≤ b.fin) (hn : hi - lo = n) : Calls Try.prog 40 #[.pointer (some ⟨g, 0, Option.none⟩), .agg #[.int .i64 lo, .int .i64 hi]] w (ReadOk w (window b lo n)) := by
  have hu0 := h.ok.u0
  have hu2 := h.ok.u2
  have hu3 := h.ok.u3
  have hn1 := h.ok.n1
  have hmay : May ⟨lo, hi⟩ := ⟨by simp only; omega, h2, by simp only; omega⟩
  have hnn : n ≤ b.ring.length := by omega
  obtain ⟨W, hW⟩ : ∃ W, W = w.alloc (.cells #[.int .i64 lo, .int .i64 hi] 26) := ⟨_, rfl⟩
  have X : Blk W w.heap.size 26 #[.int .i64 lo, .int .i64 hi] := by rw [hW]; exact Blk.new w _ _
  have B := Lib.hid (show Below w.heap.size w W by rw [hW]; exact (Below.refl _ w).alloc (Nat.le_refl _) _)
  have Y := Lib.hid (h.below B.out)
  have e0 : ∀ d os, (Go.Sort.grow (redrawn W d) os).cell? ⟨w.heap.size, 0, Option.none⟩ = some (.int .i64 lo) := fun d os => (X.regrown d os).cell 0
  have e1 : ∀ d os, (Go.Sort.grow (redrawn W d) os).cell? ⟨w.heap.size, 1, Option.none⟩ = some (.int .i64 hi) := fun d os => (X.regrown d os).cell 1
  have e2 : ∀ d os, (Go.Sort.grow (redrawn W d) os).cell? ⟨g, 1, Option.none⟩ = some (.int .i64 b.una) := fun d os => (Y.out.box.regrown d os).cell 1
  have e3 : ∀ d os, (Go.Sort.grow (redrawn W d) os).cell? ⟨g, 2, Option.none⟩ = some (.int .i64 b.fin) := fun d os => (Y.out.box.regrown d os).cell 2
  have M := Lib.hid (fun d os => Calls.regrown_of (may_calls ⟨lo, hi⟩ (Go.Sort.grow (redrawn W d) os)))
  rw [decide_eq_true hmay] at M
  have z1 : decide (lo < b.una) = false := decide_eq_false (by omega)
  have z2 : decide (b.fin < hi) = false := decide_eq_false (by omega)
  have HW := Lib.hid (fun (w1 : World) (hb : Below W.heap.size W w1) => And.intro (Y.out.below hb) (X.below hb X.lt))
  have HS := Lib.hid (X.lt : w.heap.size < W.heap.size)
  clear X
  go_enter Try.func40, Try.ntmps40
  go_upto_region 3 with fail
  rw [← hW]
  clear hW
  refine wp_region_quiet_below (by kernel_rfl) (by kernel_rfl) ?_
  repeat (go_big_quiet_step (exact M.out _ _))
  refine wpQuiet_nil ?_
  rintro _ ⟨⟨nq, osq⟩, rfl⟩
  go_upto_region 5 with fail
  have hb1 := below_regrown W nq osq
  generalize Go.Sort.grow (redrawn W nq) osq = w1 at *
  obtain ⟨hY1, hX1⟩ := HW.out _ hb1
  have B1 := Lib.hid (B.out.trans (hb1.mono B.out.size))
  clear hb1 e0 e1 e2 e3 M HW
  have e0 : ∀ d os, (Go.Sort.grow (redrawn w1 d) os).cell? ⟨w.heap.size, 0, Option.none⟩ = some (.int .i64 lo) := fun d os => (hX1.regrown d os).cell 0
  have e1 : ∀ d os, (Go.Sort.grow (redrawn w1 d) os).cell? ⟨w.heap.size, 1, Option.none⟩ = some (.int .i64 hi) := fun d os => (hX1.regrown d os).cell 1
  have L := Lib.hid (fun d os => Calls.regrown_of (len_calls ⟨lo, hi⟩ (Go.Sort.grow (redrawn w1 d) os)))
  rw [len_may hmay] at L
  simp only at L
  rw [hn] at L
  have P := Lib.hid (fun d os => regrown_quiet (pieces_calls g rb b lo n (Go.Sort.grow (redrawn w1 d) os) (hY1.below (below_regrown w1 d os)) (by omega) hnn))
  have Y1 := Lib.hid hY1
  have hlt := at_lt h.ok lo
  have hup : upto_ b lo n = min n (b.ring.length - at_ b lo) := rfl
  have HWin : Hid (window b lo n = (b.ring.drop (at_ b lo)).take (upto_ b lo n) ++ b.ring.take (n - upto_ b lo n)) := Lib.hid rfl
  generalize window b lo n = win at *
  generalize upto_ b lo n = k at *
  generalize at_ b lo = a at *
  have HU := Lib.hid hup
  clear hX1 hY1 hup
  refine wp_region_quiet_below (by kernel_rfl) (by kernel_rfl) ?_
  repeat (go_big_quiet_step (first | exact L.out _ _ | exact P.out _ _))
  refine wpQuiet_nil ?_
  rintro _ ⟨⟨nq, osq⟩, rfl⟩
  have hb2 := below_regrown w1 nq osq
  generalize Go.Sort.grow (redrawn w1 nq) osq = w2 at *
  have Y2 := Lib.hid (Y1.out.below hb2)
  have B2 := Lib.hid (B1.out.trans (hb2.mono B1.out.size))
  have R1 := reps_piece (L := b.ring) (N := b.ring.length) (Y1.out.below hb2).ring a k (by have := HU.out; omega)
  have R2 := reps_piece (L := b.ring) (N := b.ring.length) (Y1.out.below hb2).ring 0 (n - k) (by omega)
  have NE1 : Hid ((if k = 0 then some (⟨rb, 0, Option.none⟩ : Addr) else some ⟨rb, a, Option.none⟩) ≠ Option.none) := Lib.hid (by split <;> simp)
  have NE2 : Hid ((if n - k = 0 then some (⟨rb, 0, Option.none⟩ : Addr) else some ⟨rb, 0, Option.none⟩) ≠ Option.none) := Lib.hid (by split <;> simp)
  have L1 : Hid (((b.ring.drop a).take k).length = k) := Lib.hid (by rw [List.length_take, List.length_drop]; have := HU.out; omega)
  have L2 : Hid (((b.ring.drop 0).take (n - k)).length = n - k) := Lib.hid (by rw [List.length_take, List.length_drop]; omega)
  have HW2 : Hid (win = (b.ring.drop a).take k ++ (b.ring.drop 0).take (n - k)) := Lib.hid (by rw [HWin.out, List.drop_zero])
  have kle : k + (n - k) ≤ 1000000 := by have := HU.out; omega
  clear hb2 e0 e1 L P
  simp only [piece_slice]
  generalize (if k = 0 then some (⟨rb, 0, Option.none⟩ : Addr) else some ⟨rb, a, Option.none⟩) = A1 at *
  generalize (if n - k = 0 then some (⟨rb, 0, Option.none⟩ : Addr) else some ⟨rb, 0, Option.none⟩) = A2 at *
  generalize (b.ring.drop a).take k = xs at *
  generalize (b.ring.drop 0).take (n - k) = ys at *
  generalize n - k = m at *
  have R1 := Lib.hid R1
  have R2 := Lib.hid R2
  obtain ⟨w3, hw3⟩ : ∃ w3, w3 = w2.alloc (.cells #[.slice A1 k k, .slice A2 m m] 60) := ⟨_, rfl⟩
  have b23 : Below w2.heap.size w2 w3 := by rw [hw3]; exact (Below.refl _ w2).alloc (Nat.le_refl _) _
  have C := Lib.hid (concat_calls w2.heap.size A1 A2 k m k m xs ys 60 w3 (by rw [hw3]; exact Blk.new w2 _ _) L1.out L2.out (fun h => absurd h NE1.out) (fun h => absurd h NE2.out) kle (R1.out.below b23) (R2.out.below b23))
  have B3 := Lib.hid (B2.out.trans (b23.mono B2.out.size))
  clear b23 R1 R2
  go_wp2_with fail
  rw [← hw3]
  clear hw3
  refine C.out.mono ?_
  rintro e w4 ⟨v, rfl, q4, b4, o4⟩
  have Q4 := Lib.hid q4
  have B4 := Lib.hid b4
  have O4 := Lib.hid o4
  clear q4 b4 o4
  go_wp2
  go_ret2
  refine ⟨v, rfl, ?_, B3.out.trans (B4.out.mono B3.out.size), fun j hj => Nat.le_trans B3.out.size (O4.out j hj)⟩
  rw [HW2.out]
  exact Q4.out
end Go.Proofs.Ytaokiocpfpdmkaa.Buff
