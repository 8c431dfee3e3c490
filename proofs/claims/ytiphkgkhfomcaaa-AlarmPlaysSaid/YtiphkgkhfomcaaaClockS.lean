/- Chapter 13 (alarm): what a clock is; New, Now, Len, Next, At, Stop, Set. -/
import Derived.Test.YtiphkgkhfomcaaaClock
import Derived.Test.YtiphkgkhfomcaaaBest
set_option linter.unusedSimpArgs false
set_option linter.unusedVariables false
attribute [local go_sem ↓] Go.wp_at_zero Go.wp_at_succ
namespace Go.Proofs.Ytiphkgkhfomcaaa.Alarm
open Go.BigFrame Go.RowKit Go.OpenShut Go.Proofs.Ytiphkgkhfomcaaa.Aid Go.Proofs.Ytiphkgkhfomcaaa.DMap Go.Proofs.Ytiphkgkhfomcaaa.Heap
/-- A clock, told: what it shows, and when each alarm rings (-1: it is not set). -/
structure Ck where
  now : Int
  A : List Int
structure CkOk (c : Ck) : Prop where
  n0 : 0 ≤ c.now
  n1 : c.now ≤ 4611686018427387904
  len : c.A.length ≤ 64
  each : ∀ k, at_ c.A k = -1 ∨ (0 ≤ at_ c.A k ∧ at_ c.A k ≤ 4611686018427387904)
structure IsClk (w : World) (C R mb : Nat) (fv : Value) (m : Int → Option Value) (l : List Ring) (c : Ck) : Prop where
  box : Blk w C 97 #[.pointer (some ⟨R, 0, Option.none⟩), .int .i64 c.now, .int .i64 c.A.length]
  rings : IsRings w R mb fv m l
  heap : Heap (g l) l.length
  rep : Rep l c.A
  cnt : l.length = cnt c.A
  cR : C ≠ R
  cm : C ≠ mb
  cf : fv.ownBlock ≠ some C
  ok : CkOk c
/-- The blocks of a clock. -/
def cb (C R mb : Nat) (fv : Value) (k : Nat) : Prop := k = C ∨ rb R mb fv k
def Clk (w : World) (B : Nat → Prop) (C : Nat) (c : Ck) : Prop := ∃ R mb fv m l, IsClk w C R mb fv m l c ∧ ∀ k, B k ↔ cb C R mb fv k
def Turns (w : World) (B : Nat → Prop) (C : Nat) (c' : Ck) (v : Value) (e : Ending) (w' : World) : Prop := e = .returned v ∧ ∃ B', Clk w' B' C c' ∧ (∀ k, B' k → B k ∨ w.heap.size ≤ k) ∧ Kp B w w'
theorem IsClk.lt {w : World} {C R mb : Nat} {fv : Value} {m : Int → Option Value} {l : List Ring} {c : Ck} (h : IsClk w C R mb fv m l c) (k : Nat) (hk : cb C R mb fv k) : k < w.heap.size := by
  rcases hk with rfl | hk
  · exact h.box.lt
  · exact h.rings.lt k hk
theorem IsClk.same {w w' : World} {C R mb : Nat} {fv : Value} {m : Int → Option Value} {l : List Ring} {c : Ck} (h : IsClk w C R mb fv m l c) (hb : ∀ k, cb C R mb fv k → w'.heap[k]? = w.heap[k]?) : IsClk w' C R mb fv m l c :=
  ⟨(hb C (.inl rfl)).trans h.box, h.rings.same (fun k hk => hb k (.inr hk)), h.heap, h.rep, h.cnt, h.cR, h.cm, h.cf, h.ok⟩
theorem IsClk.below {w w' : World} {C R mb : Nat} {fv : Value} {m : Int → Option Value} {l : List Ring} {c : Ck} (h : IsClk w C R mb fv m l c) (hb : Below w.heap.size w w') : IsClk w' C R mb fv m l c := h.same fun k hk => hb.block k (h.lt k hk)
theorem Clk.lt {w : World} {B : Nat → Prop} {C : Nat} {c : Ck} (h : Clk w B C c) (k : Nat) (hk : B k) : k < w.heap.size := by
  obtain ⟨R, mb, fv, m, l, h, hB⟩ := h
  exact h.lt k ((hB k).1 hk)
theorem Clk.same {w w' : World} {B : Nat → Prop} {C : Nat} {c : Ck} (h : Clk w B C c) (hb : ∀ k, B k → w'.heap[k]? = w.heap[k]?) : Clk w' B C c := by
  obtain ⟨R, mb, fv, m, l, h, hB⟩ := h
  exact ⟨R, mb, fv, m, l, h.same (fun k hk => hb k ((hB k).2 hk)), hB⟩
theorem Clk.below {w w' : World} {B : Nat → Prop} {C : Nat} {c : Ck} (h : Clk w B C c) (hb : Below w.heap.size w w') : Clk w' B C c := h.same fun k hk => hb.block k (h.lt k hk)
theorem Clk.ok {w : World} {B : Nat → Prop} {C : Nat} {c : Ck} (h : Clk w B C c) : CkOk c := by
  obtain ⟨R, mb, fv, m, l, h, hB⟩ := h
  exact h.ok
theorem set_off {A : List Int} {nm : Nat} (h : at_ A nm = -1) : A.set nm (-1) = A := by
  apply List.ext_getElem?
  intro k
  rw [List.getElem?_set]
  split
  · rename_i e
    subst e
    split
    · rename_i h2; rw [Heap.get_at h2, h]
    · rename_i h2; rw [List.getElem?_eq_none (by omega)]
  · rfl
theorem off_none {w : World} {C R mb : Nat} {fv : Value} {m : Int → Option Value} {l : List Ring} {c : Ck} (h : IsClk w C R mb fv m l c) {nm : Int} (hn : nm < 0 ∨ at_ c.A nm.toNat < 0) : m nm = Option.none :=
  h.rings.plc.none fun k hk e => by
    obtain ⟨q, e1, e2, e3⟩ := h.rep.of_ k hk
    rw [e1] at e
    subst e
    rw [Int.toNat_natCast, at_get e2] at hn
    omega
theorem on_at {w : World} {C R mb : Nat} {fv : Value} {m : Int → Option Value} {l : List Ring} {c : Ck} (h : IsClk w C R mb fv m l c) {nm : Nat} (hn : 0 ≤ at_ c.A nm) : ∃ i, i < l.length ∧ g l i = ⟨at_ c.A nm, nm⟩ := h.rep.all nm _ (Heap.get_at (at_lt hn)) hn
theorem now_nil (w : World) : Calls Try.prog 17 #[.pointer Option.none] w (Same w (.int .i64 0)) := by
  go_enter Try.func17, Try.ntmps17
  go_wp2
  go_ret
  exact ⟨rfl, rfl⟩
theorem now_calls (B : Nat → Prop) (C : Nat) (c : Ck) (w : World) (h : Clk w B C c) : Calls Try.prog 17 #[.pointer (some ⟨C, 0, Option.none⟩)] w (Same w (.int .i64 c.now)) := by
  obtain ⟨R, mb, fv, m, l, h, hB⟩ := h
  have c1 := h.box.cell 1
  simp at c1
  clear h hB
  go_enter Try.func17, Try.ntmps17
  go_wp2
  go_ret
  exact ⟨rfl, rfl⟩
theorem len_nil (w : World) : Calls Try.prog 23 #[.pointer Option.none] w (Same w (.int .i64 0)) := by
  go_enter Try.func23, Try.ntmps23
  go_wp2
  go_ret
  exact ⟨rfl, rfl⟩
theorem len_calls (B : Nat → Prop) (C : Nat) (c : Ck) (w : World) (h : Clk w B C c) : Calls Try.prog 23 #[.pointer (some ⟨C, 0, Option.none⟩)] w (Same w (.int .i64 (cnt c.A))) := by
  obtain ⟨R, mb, fv, m, l, h, hB⟩ := h
  have c0 := h.box.cell 0
  simp at c0
  have K := Lib.hid (rlen_calls R mb fv m l w h.rings)
  rw [h.cnt] at K
  clear h hB
  go_enter Try.func23, Try.ntmps23
  go_wp2_with fail
  refine K.out.mono ?_
  rintro e w1 ⟨rfl, rfl⟩
  go_wp2
  go_ret
  exact ⟨rfl, rfl⟩
theorem next_nil (w : World) : Calls Try.prog 16 #[.pointer Option.none] w (Gives w (.tuple #[.int .i64 0, .int .i64 0, .bool false])) := by
  go_enter Try.func16, Try.ntmps16
  go_wp2_with fail
  refine (len_nil w).mono ?_
  rintro e w1 ⟨rfl, rfl⟩
  go_wp2
  exact bodyPost_ret (v := .tuple #[.int .i64 0, .int .i64 0, .bool false]) (by simp [results, Try.results16, go_sem]; done) rfl ⟨rfl, Below.refl _ _⟩
theorem next_none (B : Nat → Prop) (C : Nat) (c : Ck) (w : World) (h : Clk w B C c) (hb : best c.A < 0) : Calls Try.prog 16 #[.pointer (some ⟨C, 0, Option.none⟩)] w (Gives w (.tuple #[.int .i64 0, .int .i64 0, .bool false])) := by
  have K := Lib.hid (len_calls B C c w h)
  rw [cnt_best.2 hb] at K
  clear h
  go_enter Try.func16, Try.ntmps16
  go_wp2_with fail
  refine K.out.mono ?_
  rintro e w1 ⟨rfl, rfl⟩
  go_wp2
  exact bodyPost_ret (v := .tuple #[.int .i64 0, .int .i64 0, .bool false]) (by simp [results, Try.results16, go_sem]; done) rfl ⟨rfl, Below.refl _ _⟩
set_option maxRecDepth 100000 in
set_option maxHeartbeats 1000000 in
theorem next_some (B : Nat → Prop) (C : Nat) (c : Ck) (b : Nat) (w : World) (h : Clk w B C c) (hb : best c.A = b) : Calls Try.prog 16 #[.pointer (some ⟨C, 0, Option.none⟩)] w (Gives w (.tuple #[.int .i64 b, .int .i64 (at_ c.A b), .bool true])) := by
  have K := Lib.hid (len_calls B C c w h)
  obtain ⟨R, mb, fv, m, l, h, hB⟩ := h
  have hc : 0 < cnt c.A := by
    have := (@cnt_best c.A).1
    omega
  obtain ⟨b', e1, e2, _⟩ := root_best h.rep h.heap (by have := h.cnt; omega)
  obtain rfl : b = b' := by omega
  obtain ⟨d, cap, rfl, hcap⟩ : ∃ d cap, fv = .slice (some ⟨d, 0, Option.none⟩) l.length cap ∧ l.length ≤ cap := by
    obtain ⟨_, h0⟩ | ⟨d, cap, cur, h0, h1, h2, _⟩ := h.rings.row
    · have := h.cnt; rw [h0] at this; simp at this; omega
    · exact ⟨d, cap, h0, h1⟩
  have hl := h.cnt
  obtain ⟨n0, n1⟩ := row_cells h.rings.row 0 (by omega)
  rw [e2] at n0 n1
  simp only [Nat.zero_mul, Nat.zero_add] at n0 n1
  have c0 := h.box.cell 0
  have d0 := h.rings.box.cell 0
  simp at c0 d0
  have hne : ¬ ((cnt c.A : Int) = 0) := by omega
  have q1 : (0 : Int) < (l.length : Int) := by omega
  generalize at_ c.A b = a at *
  clear h hB hb e1 e2
  generalize hgl : l.length = n at *
  clear hl
  have hb2 : Below w.heap.size w (w.alloc (.cells #[.int .i64 a, .int .i64 b] 100)) := (Below.refl _ w).alloc (Nat.le_refl _) _
  have HB := Lib.hid hb2
  go_enter Try.func16, Try.ntmps16
  go_wp2_with fail
  refine K.out.mono ?_
  rintro e w1 ⟨rfl, rfl⟩
  go_upto_region 4 with fail
  go_region
  all_goals
    go_wp2
    exact bodyPost_ret (v := .tuple #[.int .i64 b, .int .i64 a, .bool true]) (by simp [results, Try.results16, go_sem]; done) rfl ⟨rfl, below_drew HB.out⟩
theorem at_nil (nm : Int) (w : World) : Calls Try.prog 18 #[.pointer Option.none, .int .i64 nm] w (Same w (.tuple #[.int .i64 0, .bool false])) := by
  go_enter Try.func18, Try.ntmps18
  go_wp2
  go_ret2
  exact ⟨rfl, rfl⟩
theorem at_not (B : Nat → Prop) (C : Nat) (c : Ck) (nm : Int) (w : World) (h : Clk w B C c) (hf : Fits nm) (hn : nm < 0 ∨ at_ c.A nm.toNat < 0) : Calls Try.prog 18 #[.pointer (some ⟨C, 0, Option.none⟩), .int .i64 nm] w (Same w (.tuple #[.int .i64 0, .bool false])) := by
  obtain ⟨R, mb, fv, m, l, h, hB⟩ := h
  have c0 := h.box.cell 0
  have c1 := h.rings.box.cell 1
  simp at c0 c1
  have lk := h.rings.map.look Try.underlying90 (zero3 _) hf
  rw [off_none h hn] at lk
  simp only [Option.isSome_none, Option.getD_none] at lk
  clear h hB hn
  go_enter Try.func18, Try.ntmps18
  go_wp2
  go_ret2
  exact ⟨rfl, rfl⟩
set_option maxRecDepth 100000 in
set_option maxHeartbeats 1000000 in
theorem at_yes (B : Nat → Prop) (C : Nat) (c : Ck) (nm : Nat) (w : World) (h : Clk w B C c) (hn : 0 ≤ at_ c.A nm) : Calls Try.prog 18 #[.pointer (some ⟨C, 0, Option.none⟩), .int .i64 nm] w (Same w (.tuple #[.int .i64 (at_ c.A nm), .bool true])) := by
  obtain ⟨R, mb, fv, m, l, h, hB⟩ := h
  obtain ⟨i, hi, e⟩ := on_at h hn
  have hf := h.rings.fit i hi
  have hm := h.rings.plc.at_ i hi
  obtain ⟨d, cap, rfl, hcap⟩ : ∃ d cap, fv = .slice (some ⟨d, 0, Option.none⟩) l.length cap ∧ l.length ≤ cap := by
    obtain ⟨_, h0⟩ | ⟨d, cap, cur, h0, h1, h2, _⟩ := h.rings.row
    · rw [h0] at hi; simp at hi
    · exact ⟨d, cap, h0, h1⟩
  obtain ⟨n0, n1⟩ := row_cells h.rings.row i hi
  rw [e] at hf hm n0 n1
  simp only at hf hm n0 n1
  have c0 := h.box.cell 0
  have d0 := h.rings.box.cell 0
  have d1 := h.rings.box.cell 1
  simp at c0 d0 d1
  have lk := h.rings.map.look Try.underlying90 (zero3 _) hf
  rw [hm] at lk
  simp only [Option.isSome_some, Option.getD_some] at lk
  have q0 : (0 : Int) ≤ (i : Int) := by omega
  have q1 : (i : Int) < (l.length : Int) := by omega
  clear h hB hn e hm hf
  generalize at_ c.A nm = a at *
  generalize l.length = n at *
  go_enter Try.func18, Try.ntmps18
  go_wp2
  go_ret2
  exact ⟨rfl, rfl⟩
end Go.Proofs.Ytiphkgkhfomcaaa.Alarm
