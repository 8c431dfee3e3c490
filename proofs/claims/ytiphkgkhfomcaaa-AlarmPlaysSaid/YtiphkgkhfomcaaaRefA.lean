/- Chapter 13 (alarm): the document's own: put, Is, Set, Stop. -/
import Derived.Test.YtiphkgkhfomcaaaAdvance
import Derived.Test.YtiphkgkhfomcaaaBytes
import Derived.Outline
set_option linter.unusedSimpArgs false
set_option linter.unusedVariables false
attribute [local go_sem ↓] Go.wp_at_zero Go.wp_at_succ
namespace Go.Proofs.Ytiphkgkhfomcaaa.Alarm
open Go.BigFrame Go.RowKit Go.OpenShut Go.Proofs.Ytiphkgkhfomcaaa.Aid Go.Proofs.Ytiphkgkhfomcaaa.DMap Go.Proofs.Ytiphkgkhfomcaaa.Heap
abbrev refV (now : Int) (v : Value) : Value := .agg #[.int .i64 now, v]
theorem own_lt {n m c j : Nat} (hj : j < n) (e : (Value.slice (some ⟨n, 0, Option.none⟩) m c).ownBlock = some j) : False := by
  have : n = j := by simpa [Value.ownBlock] using e
  omega
theorem row_new3 (w : World) : RowOf 3 1 encI (w.alloc (.cells #[] 3)) (.slice (some ⟨w.heap.size, 0, Option.none⟩) 0 0) ([] : List Int) :=
  .inr ⟨w.heap.size, 0, #[], rfl, Nat.le_refl _, by omega, heap_alloc_new w _, by simp, rfl⟩
theorem row3_cell {w : World} {b n cap : Nat} {A : List Int} (h : RowOf 3 1 encI w (.slice (some ⟨b, 0, Option.none⟩) n cap) A) (k : Nat) (hk : k < A.length) : w.cell? ⟨b, k, Option.none⟩ = some (.int .i64 (at_ A k)) := by
  have := h.cell encI_len (k * 1 + 0) _ (flat_get encI 1 encI_len A k _ 0 _ (Heap.get_at hk) rfl)
  simpa using this
theorem row3_frozen {w : World} {b n cap : Nat} {A : List Int} (h : RowOf 3 1 encI w (.slice (some ⟨b, 0, Option.none⟩) n cap) A) : ∀ i, w.frozen? ⟨b, i, Option.none⟩ = false := by
  obtain ⟨h0, _⟩ | ⟨b', cap', cur, h0, _, _, h3, _⟩ := h
  · injection h0 with h0; cases h0
  · injection h0 with h0
    obtain rfl : b = b' := by simpa using h0
    exact fun i => Blk.frozen h3 i
theorem flat_encI (l : List Int) : l.flatMap encI = l.map (fun a => Value.int .i64 a) := by
  induction l with
  | nil => rfl
  | cons x t ih => simp [encI, List.flatMap_cons] at ih ⊢; exact ih
theorem row3_set {w : World} {b n cap : Nat} {A : List Int} (h : RowOf 3 1 encI w (.slice (some ⟨b, 0, Option.none⟩) n cap) A) (k : Nat) (a : Int) : RowOf 3 1 encI (w.setCell ⟨b, k, Option.none⟩ (.int .i64 a)) (.slice (some ⟨b, 0, Option.none⟩) n cap) (A.set k a) := by
  obtain ⟨h0, _⟩ | ⟨b', cap', cur, h0, h1, h2, h3, h4, h5⟩ := h
  · injection h0 with h0; cases h0
  · injection h0 with e1 e2 e3
    obtain rfl : b = b' := by simpa using e1
    subst e2 e3
    refine .inr ⟨b, cap, cur.setIfInBounds k (.int .i64 a), by simp, by simpa using h1, h2, Blk.set_ (t := 3) h3 k (.int .i64 a), by simpa using h4, ?_⟩
    rw [List.length_set, Array.toList_setIfInBounds, List.take_set, h5, flat_encI, flat_encI, List.map_set]
theorem row3_some {w : World} {A1 : Option Addr} {n cap : Nat} {A : List Int} (h : RowOf 3 1 encI w (.slice A1 n cap) A) (hA : 0 < A.length) : ∃ b, A1 = some ⟨b, 0, Option.none⟩ := by
  obtain ⟨_, h0⟩ | ⟨b, cap, cur, h0, _⟩ := h
  · rw [h0] at hA; simp at hA
  · injection h0 with h0; exact ⟨b, h0⟩
/-- A clock of the document's own making. -/
def RefNew (w : World) (now : Int) (A : List Int) (v' : Value) (w' : World) : Prop := RowOf 3 1 encI w' v' A ∧ Below w.heap.size w w' ∧ ∀ k, v'.ownBlock = some k → w.heap.size ≤ k
set_option maxRecDepth 100000 in
set_option maxHeartbeats 4000000 in
theorem put_calls (now : Int) (v : Value) (A : List Int) (k : Nat) (a : Int) (w : World) (h : RowOf 3 1 encI w v A) (hk : k < A.length) (hl : A.length ≤ 1000) : Calls Try.prog 66 #[refV now v, .int .i64 k, .int .i64 a] w (fun e w' => ∃ v', e = .returned (refV now v') ∧ RefNew w now (A.set k a) v' w') := by
  obtain ⟨i0, hi, hz0, hz1, hz2⟩ := info_parts info3
  obtain ⟨A1, c1, rfl, hc⟩ := h.slice
  obtain ⟨b, rfl⟩ := row3_some h (by omega)
  obtain ⟨Ar, cr, hr1, hr2, hR⟩ := h.reps encI_len
  injection hr1 with e1 e2 e3
  subst e1 e3
  have R := Lib.hid hR
  have HL := Lib.hid (And.intro hk hl)
  obtain ⟨N, hN⟩ : ∃ N, A.length = N := ⟨_, rfl⟩
  have HN := Lib.hid hN
  rw [hN] at hk hl hc ⊢
  have q0 : (0 : Int) ≤ (k : Int) := by omega
  have q1 : (k : Int) < (N : Int) := by omega
  have b2 : Below w.heap.size w ((w.alloc (.cells #[.int .i64 now, .slice (some ⟨b, 0, Option.none⟩) N c1] 44)).alloc (.cells #[.int .i64 0, .slice Option.none 0 0] 44)) := ((Below.refl _ w).alloc (Nat.le_refl _) _).alloc (by simp) _
  clear h hR hr2 hN
  go_enter Try.func66, Try.ntmps66
  go_upto_region 1 with fail
  have X2 := (Blk.new w 44 #[.int .i64 now, .slice (some ⟨b, 0, Option.none⟩) N c1]).alloc (.cells #[.int .i64 0, .slice Option.none 0 0] 44)
  have Y2 := Blk.new (w.alloc (.cells #[.int .i64 now, .slice (some ⟨b, 0, Option.none⟩) N c1] 44)) 44 #[.int .i64 0, .slice Option.none 0 0]
  rw [World.size_alloc] at Y2
  have hs2 : ((w.alloc (.cells #[.int .i64 now, .slice (some ⟨b, 0, Option.none⟩) N c1] 44)).alloc (.cells #[.int .i64 0, .slice Option.none 0 0] 44)).heap.size = w.heap.size + 2 := by simp
  revert X2 Y2 b2 hs2
  generalize (w.alloc (.cells #[.int .i64 now, .slice (some ⟨b, 0, Option.none⟩) N c1] 44)).alloc (.cells #[.int .i64 0, .slice Option.none 0 0] 44) = w2
  intro b2 X2 Y2 hs2
  have R2 := Lib.hid (R.out.below b2)
  have x1 := X2.cell 1
  simp at x1
  have x3 := (X2.alloc (.cells #[] 3)).cell 1
  simp at x3
  have HS2 := Lib.hid hs2
  have HW := Lib.hid (Eq.refl w.heap.size)
  clear hs2
  generalize hH : w.heap.size = H at *
  have HH := Lib.hid hH
  clear hH
  go_wp2_with (at_builtin; refine wpList_append_any (by rfl) _ _ 33 (by rfl) i0 _ 8 Try.underlying33 hi hz0 hz1 hz2 (by decide) (by decide) encI_len encI_one (.slice (some ⟨w2.heap.size, 0, Option.none⟩) 0 0) ([] : List Int) (by rfl) (row_new3 w2) _ N c1 A HN.out (by rfl) (fun h => by cases h) (R2.out.below ((Below.refl _ w2).alloc (Nat.le_refl _) _)) ?k2 ?k3 ?k4)
  case k2 => (try simp only [List.length_nil]); unfold maxLen; omega
  case k3 => (try simp only [List.length_nil]); omega
  case k4 =>
    intro v' w3 hr ha
    (try simp only [List.nil_append] at hr)
    have hs2 := HS2.out
    have hH := HH.out
    obtain ⟨A2, c2, rfl, _⟩ := hr.slice
    obtain ⟨b', rfl⟩ := row3_some hr (by have := HN.out; omega)
    have hb' : w2.heap.size ≤ b' := by
      rcases ha.own b' rfl with h1 | h1
      · have : w2.heap.size = b' := by simpa [Value.ownBlock] using h1
        omega
      · simp at h1; omega
    have hsz := ha.size
    rw [World.size_alloc] at hsz
    have keep : ∀ j, j < w2.heap.size → w3.heap[j]? = w2.heap[j]? := fun j hj => (ha.block j (by rw [World.size_alloc]; omega) (fun e => own_lt hj e)).trans (Below.heap_alloc w2 _ j hj)
    have X3 : Blk w3 H 44 #[.int .i64 now, .slice (some ⟨b, 0, Option.none⟩) N c1] := (keep H (by omega)).trans X2
    have Y3 : Blk w3 (H + 1) 44 #[.int .i64 0, .slice Option.none 0 0] := (keep (H + 1) (by omega)).trans Y2
    have y1 := row3_cell hr k (by have := HN.out; omega)
    have y2 := row3_frozen hr
    have R4 := row3_set hr k a
    have X4 := X3.far (p := ⟨b', k, Option.none⟩) (show H ≠ b' by omega) (.int .i64 a)
    have Y4 := Y3.far (p := ⟨b', k, Option.none⟩) (show H + 1 ≠ b' by omega) (.int .i64 a)
    have K4 : Below H w (w3.setCell ⟨b', k, Option.none⟩ (.int .i64 a)) := by
      have := b2
      exact Below.setCell ⟨ha.os.trans b2.os, ha.tape.trans b2.tape, ha.output.trans b2.output, by have := b2.size; omega, fun j hj => (keep j (by omega)).trans (b2.block j hj)⟩ (p := ⟨b', k, Option.none⟩) (by show H ≤ b'; omega) _
    have hN := HN.out
    rw [hN]
    have hc2 : (A.set k a).length = N := by simp [hN]
    rw [hN] at R4
    clear hr ha keep X3 Y3 X2 Y2 x1 b2 hsz hs2 hH
    go_upto_region 3 with fail
    generalize w3.setCell ⟨b', k, Option.none⟩ (.int .i64 a) = w4 at *
    have z0 := X4.cell 0
    have z1 := X4.cell 1
    have zf := X4.frozen
    have u0 := Y4.cell 0
    have u1 := Y4.cell 1
    have uf := Y4.frozen
    simp at z0 z1 u0 u1
    have X5 := (X4.set_ 1 (.slice (some ⟨b', 0, Option.none⟩) N c2)).eq (cs' := #[.int .i64 now, .slice (some ⟨b', 0, Option.none⟩) N c2]) (by simp)
    have Y5 := Y4.far (p := ⟨H, 1, Option.none⟩) (show H + 1 ≠ H by omega) (.slice (some ⟨b', 0, Option.none⟩) N c2)
    have Y6 := ((Y5.set_ 0 (.int .i64 now)).set_ 1 (.slice (some ⟨b', 0, Option.none⟩) N c2)).eq (cs' := #[.int .i64 now, .slice (some ⟨b', 0, Option.none⟩) N c2]) (by simp)
    have t0 := Y6.cell 0
    have t1 := Y6.cell 1
    simp at t0 t1
    go_wp2
    have hbH : b' ≠ H ∧ b' ≠ H + 1 := by have := HS2.out; omega
    refine bodyPost_ret (v := refV now (.slice (some ⟨b', 0, Option.none⟩) N c2)) (by simp [results, Try.results66, go_sem, t0, t1]; done) rfl ⟨_, rfl, R4.same (fun j hj => ?_), ?_, fun j hj => ?_⟩
    · obtain rfl : b' = j := by simpa [Value.ownBlock] using hj
      exact (Below.heap_setCell _ _ _ b' hbH.2).trans ((Below.heap_setCell _ _ _ b' hbH.2).trans (Below.heap_setCell _ _ _ b' hbH.1))
    · rw [HH.out]
      exact ((K4.setCell (p := ⟨H, 1, Option.none⟩) (Nat.le_refl _) _).setCell (p := ⟨H + 1, 0, Option.none⟩) (by show H ≤ H + 1; omega) _).setCell (p := ⟨H + 1, 1, Option.none⟩) (by show H ≤ H + 1; omega) _
    · obtain rfl : b' = j := by simpa [Value.ownBlock] using hj
      have := HS2.out
      have := HH.out
      omega
theorem RefNew.below {w w' w2 : World} {now : Int} {A : List Int} {v' : Value} (h : RefNew w now A v' w') (hb : Below w'.heap.size w' w2) : RefNew w now A v' w2 := ⟨h.1.below hb, below_then h.2.1 h.2.1.size hb, h.2.2⟩
def isOn (A : List Int) (nm : Int) : Prop := 0 ≤ nm ∧ 0 ≤ at_ A nm.toNat
instance (A : List Int) (nm : Int) : Decidable (isOn A nm) := inferInstanceAs (Decidable (_ ∧ _))
set_option maxRecDepth 100000 in
set_option maxHeartbeats 1000000 in
theorem is_calls (now : Int) (v : Value) (A : List Int) (nm : Int) (w : World) (h : RowOf 3 1 encI w v A) : Calls Try.prog 48 #[refV now v, .int .i64 nm] w (Gives w (.bool (decide (isOn A nm)))) := by
  have hb : Below w.heap.size w (w.alloc (.cells #[.int .i64 now, v] 44)) := (Below.refl _ w).alloc (Nat.le_refl _) _
  have h1 := h.below hb
  obtain ⟨A1, c1, rfl, hc⟩ := h.slice
  have HB := Lib.hid hb
  by_cases h0 : nm < 0
  · have e : decide (isOn A nm) = false := decide_eq_false (fun c => by have := c.1; omega)
    rw [e]
    clear h h1 hb
    go_enter Try.func48, Try.ntmps48
    go_wp2
    go_ret
    exact ⟨rfl, HB.out⟩
  · obtain ⟨k, rfl⟩ := Int.eq_ofNat_of_zero_le (show 0 ≤ nm by omega)
    by_cases hk : k < A.length
    · obtain ⟨b, rfl⟩ := row3_some h (by omega)
      have c0 := row3_cell h1 k hk
      have q1 : (k : Int) < (A.length : Int) := by omega
      have q0 : (0 : Int) ≤ (k : Int) := by omega
      by_cases ha : 0 ≤ at_ A k
      · have e : decide (isOn A k) = true := decide_eq_true ⟨by omega, by simpa using ha⟩
        rw [e]
        generalize at_ A k = a at *
        generalize A.length = n at *
        clear h h1 hb
        go_enter Try.func48, Try.ntmps48
        go_wp2
        go_ret
        exact ⟨rfl, HB.out⟩
      · have e : decide (isOn A k) = false := decide_eq_false (fun c => ha (by simpa using c.2))
        rw [e]
        generalize at_ A k = a at *
        generalize A.length = n at *
        clear h h1 hb
        go_enter Try.func48, Try.ntmps48
        go_wp2
        go_ret
        exact ⟨rfl, HB.out⟩
    · have q1 : ¬ ((k : Int) < (A.length : Int)) := by omega
      have e : decide (isOn A k) = false := decide_eq_false (fun c => hk (at_lt (show 0 ≤ at_ A k by simpa using c.2)))
      rw [e]
      generalize A.length = n at *
      clear h h1 hb
      go_enter Try.func48, Try.ntmps48
      go_wp2
      go_ret
      exact ⟨rfl, HB.out⟩
end Go.Proofs.Ytiphkgkhfomcaaa.Alarm
