/- How an estimate is held against the document's, and the document's own doubling (chapter 11). -/
import Derived.Test.YthafjgaleonbgaaRttRef
namespace Go.Proofs.Ythafjgaleonbgaa.Rtt
open Go.RowKit Go.OpenShut Go.Proofs.Ythafjgaleonbgaa.Aid Go.BigFrame
attribute [local go_sem] max_2 min_2 max2_i min2_i
set_option maxHeartbeats 2000000 in
set_option maxRecDepth 100000 in
theorem equal_calls (g : Nat) (s : Est) (w : World) (hs : IsEst w g s) (ho : Ok s) : Calls Try.prog 40 #[.pointer (some ⟨g, 0, none⟩), .agg #[.int .i64 s.least, .int .i64 s.most, .int .i64 s.srtt, .int .i64 s.vary, .bool s.has, .int .i64 s.doubled]] w (Yes w) := by
  have hlt := hs.lt
  have HS := Lib.hid hs
  have HO := Lib.hid ho
  clear hs ho
  go_enter Try.func40, Try.ntmps40
  go_wp2_with fail
  obtain ⟨W, hW⟩ : ∃ W, W = w.alloc (.cells #[.int .i64 s.least, .int .i64 s.most, .int .i64 s.srtt, .int .i64 s.vary, .bool s.has, .int .i64 s.doubled] 58) := ⟨_, rfl⟩
  rw [← hW]
  have hB : Below w.heap.size w W := by rw [hW]; exact (Below.refl _ w).alloc (Nat.le_refl _) _
  have hE : IsEst W g s := by rw [hW]; exact Blk.alloc HS.out _
  have hX : Blk W w.heap.size 58 (rcells s) := by rw [hW]; exact Blk.new w _ _
  have hwl : w.heap.size < W.heap.size := hX.lt
  have e0 : ∀ d os, (Go.Sort.grow (redrawn W d) os).cell? ⟨w.heap.size, 0, none⟩ = some (.int .i64 s.least) := fun d os => (hX.regrown d os).cell 0
  have e1 : ∀ d os, (Go.Sort.grow (redrawn W d) os).cell? ⟨w.heap.size, 1, none⟩ = some (.int .i64 s.most) := fun d os => (hX.regrown d os).cell 1
  have e2 : ∀ d os, (Go.Sort.grow (redrawn W d) os).cell? ⟨w.heap.size, 2, none⟩ = some (.int .i64 s.srtt) := fun d os => (hX.regrown d os).cell 2
  have e3 : ∀ d os, (Go.Sort.grow (redrawn W d) os).cell? ⟨w.heap.size, 3, none⟩ = some (.int .i64 s.vary) := fun d os => (hX.regrown d os).cell 3
  have e4 : ∀ d os, (Go.Sort.grow (redrawn W d) os).cell? ⟨w.heap.size, 4, none⟩ = some (.bool s.has) := fun d os => (hX.regrown d os).cell 4
  have e5 : ∀ d os, (Go.Sort.grow (redrawn W d) os).cell? ⟨w.heap.size, 5, none⟩ = some (.int .i64 s.doubled) := fun d os => (hX.regrown d os).cell 5
  have c1 := Lib.hid (fun d os => regrown_quiet (rto_calls g s _ (Blk.regrown hE d os) HO.out))
  have c2 := Lib.hid (fun d os => Calls.regrown_of (ref_rto s (Go.Sort.grow (redrawn W d) os) HO.out))
  have c3 := Lib.hid (fun d os => regrown_same (srtt_calls g s _ (Blk.regrown hE d os)))
  have c4 := Lib.hid (fun d os => regrown_same (var_calls g s _ (Blk.regrown hE d os)))
  have c5 := Lib.hid (fun d os => regrown_same (has_calls g s _ (Blk.regrown hE d os)))
  have c6 := Lib.hid (fun d os => regrown_same (doubled_calls g s _ (Blk.regrown hE d os)))
  have HB := Lib.hid hB
  clear hB hE hX hW HS
  generalize rto s = q at *
  refine wp_region_quiet_below (by kernel_rfl) (by kernel_rfl) ?_
  repeat (go_big_quiet_step (first | exact c1.out _ _ | exact c2.out _ _ | exact c3.out _ _ | exact c4.out _ _ | exact c5.out _ _ | exact c6.out _ _))
  refine wpQuiet_nil ?_
  intro _ hw'
  obtain ⟨⟨nq, osq⟩, hw''⟩ := hw'
  subst hw''
  go_wp2
  go_ret
  exact ⟨rfl, HB.out.trans ((below_regrown W nq osq).mono HB.out.size)⟩
theorem below_set {B : Nat} {a w : World} (h : Below B a w) {p : Addr} (hp : B ≤ p.block) (u : Value) : Below B a (w.setCell p u) :=
  ⟨h.os, h.tape, h.output, by simpa [World.setCell] using h.size, fun i hi => (Below.heap_setCell w p u i (by omega)).trans (h.block i hi)⟩
def set6 (W : World) (b : Nat) (s : Est) : World :=
  (((((W.setCell ⟨b, 0, none⟩ (.int .i64 s.least)).setCell ⟨b, 1, none⟩ (.int .i64 s.most)).setCell ⟨b, 2, none⟩ (.int .i64 s.srtt)).setCell ⟨b, 3, none⟩ (.int .i64 s.vary)).setCell ⟨b, 4, none⟩ (.bool s.has)).setCell ⟨b, 5, none⟩ (.int .i64 s.doubled)
theorem set6_below {B : Nat} {a W : World} (h : Below B a W) {b : Nat} (hb : B ≤ b) (s : Est) : Below B a (set6 W b s) :=
  below_set (below_set (below_set (below_set (below_set (below_set h (p := ⟨b, 0, none⟩) hb _) (p := ⟨b, 1, none⟩) hb _) (p := ⟨b, 2, none⟩) hb _) (p := ⟨b, 3, none⟩) hb _) (p := ⟨b, 4, none⟩) hb _) (p := ⟨b, 5, none⟩) hb _
theorem set6_box {W : World} {b : Nat} {x : Est} (h : Blk W b 58 (rcells x)) (s : Est) : Blk (set6 W b s) b 58 (rcells s) := by
  have h2 := (((((h.set_ 0 (.int .i64 s.least)).set_ 1 (.int .i64 s.most)).set_ 2 (.int .i64 s.srtt)).set_ 3 (.int .i64 s.vary)).set_ 4 (.bool s.has)).set_ 5 (.int .i64 s.doubled)
  have e : (((((((rcells x).setIfInBounds 0 (.int .i64 s.least)).setIfInBounds 1 (.int .i64 s.most)).setIfInBounds 2 (.int .i64 s.srtt)).setIfInBounds 3 (.int .i64 s.vary)).setIfInBounds 4 (.bool s.has)).setIfInBounds 5 (.int .i64 s.doubled)) = rcells s := by simp [rcells]
  rw [e] at h2
  exact h2
theorem set6_far {W : World} {g b : Nat} {t : TypeId} {cs : Array Value} (h : Blk W g t cs) (hb : g ≠ b) (s : Est) : Blk (set6 W b s) g t cs :=
  Blk.far (Blk.far (Blk.far (Blk.far (Blk.far (Blk.far h (p := ⟨b, 0, none⟩) hb _) (p := ⟨b, 1, none⟩) hb _) (p := ⟨b, 2, none⟩) hb _) (p := ⟨b, 3, none⟩) hb _) (p := ⟨b, 4, none⟩) hb _) (p := ⟨b, 5, none⟩) hb _
theorem rfacts {w : World} {g : Nat} {s : Est} (h : Blk w g 58 (rcells s)) : (∀ i, w.frozen? ⟨g, i, none⟩ = false) ∧ w.cell? ⟨g, 0, none⟩ = some (.int .i64 s.least) ∧ w.cell? ⟨g, 1, none⟩ = some (.int .i64 s.most) ∧
    w.cell? ⟨g, 2, none⟩ = some (.int .i64 s.srtt) ∧ w.cell? ⟨g, 3, none⟩ = some (.int .i64 s.vary) ∧ w.cell? ⟨g, 4, none⟩ = some (.bool s.has) ∧ w.cell? ⟨g, 5, none⟩ = some (.int .i64 s.doubled) :=
  ⟨h.frozen, h.cell 0, h.cell 1, h.cell 2, h.cell 3, h.cell 4, h.cell 5⟩
def r0 : Est := ⟨0, 0, 0, 0, false, 0, 0⟩
set_option maxHeartbeats 2000000 in
set_option maxRecDepth 100000 in
theorem ref_backoff (s : Est) (w : World) (ho : Ok s) : Calls Try.prog 38 #[.agg #[.int .i64 s.least, .int .i64 s.most, .int .i64 s.srtt, .int .i64 s.vary, .bool s.has, .int .i64 s.doubled]] w (RefGives w (.tuple #[six (backoff s).1, .bool (backoff s).2])) := by
  have o8 := ho.2.2.2.2.2.2.2.1
  have o9 := ho.2.2.2.2.2.2.2.2
  have HO := Lib.hid ho
  clear ho
  go_enter Try.func38, Try.ntmps38
  go_wp2_with fail
  obtain ⟨W, hW⟩ : ∃ W, W = (w.alloc (.cells #[.int .i64 s.least, .int .i64 s.most, .int .i64 s.srtt, .int .i64 s.vary, .bool s.has, .int .i64 s.doubled] 58)).alloc (.cells #[.int .i64 0, .int .i64 0, .int .i64 0, .int .i64 0, .bool false, .int .i64 0] 58) := ⟨_, rfl⟩
  rw [← hW]
  have hB : Below w.heap.size w W := by rw [hW]; exact two_boxes w _ _
  have hX : Blk W w.heap.size 58 (rcells s) := by rw [hW]; exact (Blk.new w _ _).alloc _
  have hZ : Blk W (w.heap.size + 1) 58 (rcells r0) := by rw [hW]; have := Blk.new (w.alloc (.cells #[.int .i64 s.least, .int .i64 s.most, .int .i64 s.srtt, .int .i64 s.vary, .bool s.has, .int .i64 s.doubled] 58)) 58 #[.int .i64 0, .int .i64 0, .int .i64 0, .int .i64 0, .bool false, .int .i64 0]; simpa [rcells, r0] using this
  have e0 : ∀ d os, (Go.Sort.grow (redrawn W d) os).cell? ⟨w.heap.size, 0, none⟩ = some (.int .i64 s.least) := fun d os => (hX.regrown d os).cell 0
  have e1 : ∀ d os, (Go.Sort.grow (redrawn W d) os).cell? ⟨w.heap.size, 1, none⟩ = some (.int .i64 s.most) := fun d os => (hX.regrown d os).cell 1
  have e2 : ∀ d os, (Go.Sort.grow (redrawn W d) os).cell? ⟨w.heap.size, 2, none⟩ = some (.int .i64 s.srtt) := fun d os => (hX.regrown d os).cell 2
  have e3 : ∀ d os, (Go.Sort.grow (redrawn W d) os).cell? ⟨w.heap.size, 3, none⟩ = some (.int .i64 s.vary) := fun d os => (hX.regrown d os).cell 3
  have e4 : ∀ d os, (Go.Sort.grow (redrawn W d) os).cell? ⟨w.heap.size, 4, none⟩ = some (.bool s.has) := fun d os => (hX.regrown d os).cell 4
  have e5 : ∀ d os, (Go.Sort.grow (redrawn W d) os).cell? ⟨w.heap.size, 5, none⟩ = some (.int .i64 s.doubled) := fun d os => (hX.regrown d os).cell 5
  have c2 := Lib.hid (fun d os => Calls.regrown_of (ref_rto s (Go.Sort.grow (redrawn W d) os) HO.out))
  have HB := Lib.hid hB
  have HX := Lib.hid hX
  have HZ := Lib.hid hZ
  clear hB hX hW hZ
  have E0 : Hid (backoff s = if rto s ≥ s.most then (s, false) else ({ s with doubled := s.doubled + 1 }, true)) := Lib.hid rfl
  generalize rto s = q at *
  generalize backoff s = r at *
  refine wp_region_quiet_below (by kernel_rfl) (by kernel_rfl) ?_
  repeat (go_big_quiet_step (first | exact c2.out _ _))
  refine wpQuiet_nil ?_
  intro _ hw'
  obtain ⟨⟨nq, osq⟩, hw''⟩ := hw'
  subst hw''
  have X2 := Lib.hid (Blk.regrown HX.out nq osq)
  have Z2 := Lib.hid (Blk.regrown HZ.out nq osq)
  have B2 := Lib.hid (HB.out.trans ((below_regrown W nq osq).mono HB.out.size))
  clear HX HZ HB c2 e0 e1 e2 e3 e4 e5
  generalize Go.Sort.grow (redrawn W nq) osq = W2 at *
  obtain ⟨f0, e0, e1, e2, e3, e4, e5⟩ := rfacts X2.out
  obtain ⟨g0, h0, h1, h2, h3, h4, h5⟩ := rfacts Z2.out
  by_cases c : q ≥ s.most
  · have E1 : r = (s, false) := by rw [E0.out, if_pos c]
    subst E1
    clear E0
    go_wp2
    refine bodyPost_ret (v := .tuple #[six s, .bool false]) (by simp [results, Try.results38, go_sem, six, h0, h1, h2, h3, h4, h5]) rfl ⟨rfl, ?_⟩
    exact set6_below B2.out (b := w.heap.size + 1) (by omega) s
  · have E1 : r = ({ s with doubled := s.doubled + 1 }, true) := by rw [E0.out, if_neg c]
    subst E1
    clear E0
    go_wp2
    refine bodyPost_ret (v := .tuple #[six { s with doubled := s.doubled + 1 }, .bool true]) (by simp [results, Try.results38, go_sem, six, h0, h1, h2, h3, h4, h5]) rfl ⟨rfl, ?_⟩
    exact set6_below (below_set B2.out (p := ⟨w.heap.size, 5, none⟩) (Nat.le_refl _) _) (b := w.heap.size + 1) (by omega) { s with doubled := s.doubled + 1 }
end Go.Proofs.Ythafjgaleonbgaa.Rtt
