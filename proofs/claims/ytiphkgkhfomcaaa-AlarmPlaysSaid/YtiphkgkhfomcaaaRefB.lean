/- Chapter 13 (alarm): the document's own: Set, Stop, New. -/
import Derived.Test.YtiphkgkhfomcaaaRefA
set_option linter.unusedSimpArgs false
set_option linter.unusedVariables false
attribute [local go_sem ↓] Go.wp_at_zero Go.wp_at_succ
namespace Go.Proofs.Ytiphkgkhfomcaaa.Alarm
open Go.BigFrame Go.RowKit Go.OpenShut Go.Proofs.Ytiphkgkhfomcaaa.Aid Go.Proofs.Ytiphkgkhfomcaaa.DMap Go.Proofs.Ytiphkgkhfomcaaa.Heap
/-- The two boxes at a function's door: the clock that was handed in, and the one that goes out. -/
theorem doors (w : World) (now : Int) (v : Value) : Below w.heap.size w ((w.alloc (.cells #[.int .i64 now, v] 44)).alloc (.cells #[.int .i64 0, nilS] 44)) ∧
    Blk ((w.alloc (.cells #[.int .i64 now, v] 44)).alloc (.cells #[.int .i64 0, nilS] 44)) w.heap.size 44 #[.int .i64 now, v] ∧
    Blk ((w.alloc (.cells #[.int .i64 now, v] 44)).alloc (.cells #[.int .i64 0, nilS] 44)) (w.heap.size + 1) 44 #[.int .i64 0, nilS] := by
  have Y := Blk.new (w.alloc (.cells #[.int .i64 now, v] 44)) 44 #[.int .i64 0, nilS]
  rw [World.size_alloc] at Y
  exact ⟨((Below.refl _ w).alloc (Nat.le_refl _) _).alloc (by simp) _, (Blk.new w 44 _).alloc _, Y⟩
/-- The clock that goes out is written. -/
theorem out_door {w w3 : World} {H : Nat} {now : Int} {v : Value} (hH : w.heap.size ≤ H) (hb : Below w.heap.size w w3) (hY : Blk w3 H 44 #[.int .i64 0, nilS]) :
    Blk ((w3.setCell ⟨H, 0, Option.none⟩ (.int .i64 now)).setCell ⟨H, 1, Option.none⟩ v) H 44 #[.int .i64 now, v] ∧ Below w.heap.size w ((w3.setCell ⟨H, 0, Option.none⟩ (.int .i64 now)).setCell ⟨H, 1, Option.none⟩ v) ∧
    ∀ k, k ≠ H → ((w3.setCell ⟨H, 0, Option.none⟩ (.int .i64 now)).setCell ⟨H, 1, Option.none⟩ v).heap[k]? = w3.heap[k]? :=
  ⟨((hY.set_ 0 (.int .i64 now)).set_ 1 v).eq (by simp), (hb.setCell (p := ⟨H, 0, Option.none⟩) hH _).setCell (p := ⟨H, 1, Option.none⟩) hH _, fun k hk => (Below.heap_setCell _ _ _ k hk).trans (Below.heap_setCell _ _ _ k hk)⟩
theorem rset_kind (now : Int) (v : Value) (A : List Int) (nm a : Int) (w : World) (h : RowOf 3 1 encI w v A) (hn : nm < 0 ∨ (A.length : Int) ≤ nm) : Calls Try.prog 42 #[refV now v, .int .i64 nm, .int .i64 a] w (Gives w (.tuple #[refV now v, .int .i64 8])) := by
  obtain ⟨A1, c1, rfl, hc⟩ := h.slice
  obtain ⟨d1, d2, d3⟩ := doors w now (.slice A1 A.length c1)
  have O := Lib.hid (show Below w.heap.size w ((w.alloc (.cells #[.int .i64 now, .slice A1 A.length c1] 44)).alloc (.cells #[.int .i64 now, .slice A1 A.length c1] 44)) from ((Below.refl _ w).alloc (Nat.le_refl _) _).alloc (by simp) _)
  clear d1 d2 d3 h hc
  generalize A.length = n at *
  rcases (by omega : nm < 0 ∨ (¬ nm < 0 ∧ (n : Int) ≤ nm)) with h1 | ⟨h1, h2⟩
  · clear hn
    go_enter Try.func42, Try.ntmps42
    go_wp2
    exact bodyPost_ret (v := .tuple #[refV now (.slice A1 n c1), .int .i64 8]) (by simp [results, Try.results42, go_sem]; done) rfl ⟨rfl, O.out⟩
  · clear hn
    go_enter Try.func42, Try.ntmps42
    go_wp2
    exact bodyPost_ret (v := .tuple #[refV now (.slice A1 n c1), .int .i64 8]) (by simp [results, Try.results42, go_sem]; done) rfl ⟨rfl, O.out⟩
theorem rset_range (now : Int) (v : Value) (A : List Int) (k : Nat) (a : Int) (w : World) (h : RowOf 3 1 encI w v A) (hk : k < A.length) (ha : a < now ∨ 4611686018427387904 < a) : Calls Try.prog 42 #[refV now v, .int .i64 k, .int .i64 a] w (Gives w (.tuple #[refV now v, .int .i64 3])) := by
  obtain ⟨A1, c1, rfl, hc⟩ := h.slice
  obtain ⟨d1, d2, d3⟩ := doors w now (.slice A1 A.length c1)
  have O := Lib.hid (show Below w.heap.size w ((w.alloc (.cells #[.int .i64 now, .slice A1 A.length c1] 44)).alloc (.cells #[.int .i64 now, .slice A1 A.length c1] 44)) from ((Below.refl _ w).alloc (Nat.le_refl _) _).alloc (by simp) _)
  have q0 : ¬ ((k : Int) < 0) := by omega
  have q1 : ¬ ((A.length : Int) ≤ (k : Int)) := by omega
  clear d1 d2 d3 h hc
  generalize A.length = n at *
  rcases (by omega : a < now ∨ (¬ a < now ∧ 4611686018427387904 < a)) with h1 | ⟨h1, h2⟩
  · clear ha
    go_enter Try.func42, Try.ntmps42
    go_wp2
    exact bodyPost_ret (v := .tuple #[refV now (.slice A1 n c1), .int .i64 3]) (by simp [results, Try.results42, go_sem]; done) rfl ⟨rfl, O.out⟩
  · clear ha
    go_enter Try.func42, Try.ntmps42
    go_wp2
    exact bodyPost_ret (v := .tuple #[refV now (.slice A1 n c1), .int .i64 3]) (by simp [results, Try.results42, go_sem]; done) rfl ⟨rfl, O.out⟩
/-- What comes of a function whose answer is a new clock of the document's. -/
def RefTurn (w : World) (now : Int) (A : List Int) (r : Value) (e : Ending) (w' : World) : Prop := ∃ v', e = .returned (.tuple #[refV now v', r]) ∧ RefNew w now A v' w'
set_option maxRecDepth 100000 in
set_option maxHeartbeats 1000000 in
theorem rset_calls (now : Int) (v : Value) (A : List Int) (k : Nat) (a : Int) (w : World) (h : RowOf 3 1 encI w v A) (hk : k < A.length) (hl : A.length ≤ 1000) (h0 : now ≤ a) (h1 : a ≤ 4611686018427387904) : Calls Try.prog 42 #[refV now v, .int .i64 k, .int .i64 a] w (RefTurn w now (A.set k a) (.int .i64 0)) := by
  obtain ⟨A1, c1, rfl, hc⟩ := h.slice
  obtain ⟨d1, d2, d3⟩ := doors w now (.slice A1 A.length c1)
  have hs2 : ((w.alloc (.cells #[.int .i64 now, .slice A1 A.length c1] 44)).alloc (.cells #[.int .i64 0, nilS] 44)).heap.size = w.heap.size + 1 + 1 := by simp
  have K := Lib.hid (put_calls now (.slice A1 A.length c1) A k a _ (h.below d1) hk hl)
  have D := Lib.hid (And.intro d1 (And.intro d3 hs2))
  have q0 : ¬ ((k : Int) < 0) := by omega
  have q1 : ¬ ((A.length : Int) ≤ (k : Int)) := by omega
  have q2 : ¬ (a < now) := by omega
  have q3 : ¬ (4611686018427387904 < a) := by omega
  clear d1 d2 d3 hs2 h hc hk hl
  generalize hA' : A.set k a = A' at *
  clear hA'
  generalize A.length = n at *
  go_enter Try.func42, Try.ntmps42
  go_wp2_with fail
  refine K.out.mono ?_
  rintro e w3 ⟨v', rfl, r3, b3, o3⟩
  obtain ⟨A2, n2, c2, rfl⟩ := r3.some_slice
  have hsz := D.out.2.2
  have Y3 := D.out.2.1.below b3 (by rw [hsz]; omega)
  have B3 := below_then D.out.1 (by rw [hsz]; omega) b3
  obtain ⟨o1, o2, o4⟩ := out_door (now := now) (v := .slice A2 n2 c2) (by omega) B3 Y3
  have O := Lib.hid (show RefNew w now A' (.slice A2 n2 c2) _ from ⟨r3.same (fun j hj => o4 j (fun e => by have := o3 j hj; rw [hsz] at this; omega)), o2, fun j hj => by have := o3 j hj; rw [hsz] at this; omega⟩)
  have y0 := Y3.cell 0
  have y1 := Y3.cell 1
  have yf := Y3.frozen
  have t0 := o1.cell 0
  have t1 := o1.cell 1
  simp at y0 y1
  clear r3 b3 o3 hsz Y3 B3 o1 o2 o4 D K
  go_wp2
  exact bodyPost_ret (v := .tuple #[refV now (.slice A2 n2 c2), .int .i64 0]) (by simp at t0 t1; simp [results, Try.results42, go_sem, t0, t1]; done) rfl ⟨_, rfl, O.out⟩
set_option maxRecDepth 100000 in
set_option maxHeartbeats 1000000 in
theorem rstop_off (now : Int) (v : Value) (A : List Int) (nm : Int) (w : World) (h : RowOf 3 1 encI w v A) (hn : ¬ isOn A nm) : Calls Try.prog 43 #[refV now v, .int .i64 nm] w (Gives w (.tuple #[refV now v, .bool false])) := by
  obtain ⟨A1, c1, rfl, hc⟩ := h.slice
  obtain ⟨d1, d2, d3⟩ := doors w now (.slice A1 A.length c1)
  have hs2 : ((w.alloc (.cells #[.int .i64 now, .slice A1 A.length c1] 44)).alloc (.cells #[.int .i64 0, nilS] 44)).heap.size = w.heap.size + 1 + 1 := by simp
  have K := Lib.hid (is_calls now (.slice A1 A.length c1) A nm _ (h.below d1))
  rw [decide_eq_false hn] at K
  have D := Lib.hid (And.intro d1 (And.intro d2 (And.intro d3 hs2)))
  clear d1 d2 d3 hs2 h hc hn
  generalize A.length = n at *
  go_enter Try.func43, Try.ntmps43
  go_wp2_with fail
  refine K.out.mono ?_
  rintro e w3 ⟨rfl, b3⟩
  have hsz := D.out.2.2.2
  have X3 := D.out.2.1.below b3 (by rw [hsz]; omega)
  have Y3 := D.out.2.2.1.below b3 (by rw [hsz]; omega)
  have B3 := below_then D.out.1 (by rw [hsz]; omega) b3
  obtain ⟨o1, o2, o4⟩ := out_door (now := now) (v := .slice A1 n c1) (by omega) B3 Y3
  have O := Lib.hid o2
  have x0 := X3.cell 0
  have x1 := X3.cell 1
  have y0 := Y3.cell 0
  have y1 := Y3.cell 1
  have yf := Y3.frozen
  have t0 := o1.cell 0
  have t1 := o1.cell 1
  simp at x0 x1 y0 y1
  clear b3 hsz Y3 B3 o1 o2 o4 D K X3
  go_wp2
  exact bodyPost_ret (v := .tuple #[refV now (.slice A1 n c1), .bool false]) (by simp at t0 t1; simp [results, Try.results43, go_sem, t0, t1]; done) rfl ⟨rfl, O.out⟩
set_option maxRecDepth 100000 in
set_option maxHeartbeats 1000000 in
theorem rstop_on (now : Int) (v : Value) (A : List Int) (k : Nat) (w : World) (h : RowOf 3 1 encI w v A) (hn : 0 ≤ at_ A k) (hl : A.length ≤ 1000) : Calls Try.prog 43 #[refV now v, .int .i64 k] w (RefTurn w now (A.set k (-1)) (.bool true)) := by
  obtain ⟨A1, c1, rfl, hc⟩ := h.slice
  obtain ⟨d1, d2, d3⟩ := doors w now (.slice A1 A.length c1)
  have hs2 : ((w.alloc (.cells #[.int .i64 now, .slice A1 A.length c1] 44)).alloc (.cells #[.int .i64 0, nilS] 44)).heap.size = w.heap.size + 1 + 1 := by simp
  have K := Lib.hid (is_calls now (.slice A1 A.length c1) A k _ (h.below d1))
  rw [decide_eq_true (show isOn A k from ⟨by omega, by simpa using hn⟩)] at K
  have D := Lib.hid (And.intro d1 (And.intro d2 (And.intro d3 hs2)))
  have R := Lib.hid (fun (W : World) (hW : RowOf 3 1 encI W (.slice A1 A.length c1) A) => put_calls now (.slice A1 A.length c1) A k (-1) W hW (at_lt hn) hl)
  have RW := Lib.hid (h.below d1)
  clear d1 d2 d3 hs2 h hc hn hl
  generalize hA' : A.set k (-1) = A' at *
  have HA := Lib.hid hA'
  clear hA'
  generalize hnn : A.length = n at *
  have HN := Lib.hid hnn
  clear hnn
  go_enter Try.func43, Try.ntmps43
  go_wp2_with fail
  refine K.out.mono ?_
  rintro e w3 ⟨rfl, b3⟩
  have hsz := D.out.2.2.2
  have X3 := D.out.2.1.below b3 (by rw [hsz]; omega)
  have Y3 := D.out.2.2.1.below b3 (by rw [hsz]; omega)
  have B3 := below_then D.out.1 (by rw [hsz]; omega) b3
  have KP := Lib.hid (R.out w3 (RW.out.below b3))
  have x0 := X3.cell 0
  have x1 := X3.cell 1
  simp at x0 x1
  have hs3 := b3.size
  have E3 := Lib.hid (And.intro Y3 (And.intro B3 (show w.heap.size + 1 < w3.heap.size by rw [hsz] at hs3; omega)))
  clear b3 hsz Y3 B3 X3 hs3 D K
  go_wp2_with fail
  refine KP.out.mono ?_
  rintro e w4 ⟨v', rfl, r4, b4, o5⟩
  obtain ⟨A2, n2, c2, rfl⟩ := r4.some_slice
  have Y4 := E3.out.1.below b4 E3.out.2.2
  have B4 := below_then E3.out.2.1 E3.out.2.1.size b4
  have h3 := E3.out.2.2
  obtain ⟨o1, o2, o4⟩ := out_door (now := now) (v := .slice A2 n2 c2) (by omega) B4 Y4
  have O := Lib.hid (show RefNew w now A' (.slice A2 n2 c2) _ from ⟨r4.same (fun j hj => o4 j (fun e => by have := o5 j hj; omega)), o2, fun j hj => by have := o5 j hj; omega⟩)
  have y0 := Y4.cell 0
  have y1 := Y4.cell 1
  have yf := Y4.frozen
  have t0 := o1.cell 0
  have t1 := o1.cell 1
  simp at y0 y1
  clear r4 b4 o5 Y4 B4 o1 o2 o4 KP x0 x1 h3
  go_wp2
  exact bodyPost_ret (v := .tuple #[refV now (.slice A2 n2 c2), .bool true]) (by simp at t0 t1; simp [results, Try.results43, go_sem, t0, t1]; done) rfl ⟨_, rfl, O.out⟩
end Go.Proofs.Ytiphkgkhfomcaaa.Alarm
