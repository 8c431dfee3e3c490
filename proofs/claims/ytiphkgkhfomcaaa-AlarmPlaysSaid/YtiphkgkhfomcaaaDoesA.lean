/- Chapter 13 (alarm): does, an operation with both: Set, Stop. -/
import Derived.Test.YtiphkgkhfomcaaaRefC
import Derived.Test.YtiphkgkhfomcaaaAlarmSt
import Derived.Deep.DeepCutAuto
import Derived.Deep.RegionHeld3
import Derived.Deep.DrawnRows
set_option linter.unusedSimpArgs false
set_option linter.unusedVariables false
attribute [local go_sem ↓] Go.wp_at_zero Go.wp_at_succ
namespace Go.Proofs.Ytiphkgkhfomcaaa.Alarm
open Go.BigFrame Go.RowKit Go.OpenShut Go.Proofs.Ytiphkgkhfomcaaa.Aid Go.Proofs.Ytiphkgkhfomcaaa.DMap Go.Proofs.Ytiphkgkhfomcaaa.Heap
/-- What the document's own makes of a clock: the one that was handed in, or a new one. -/
def RefT (w : World) (now : Int) (v : Value) (A' : List Int) (r : Value) (e : Ending) (w' : World) : Prop :=
  ∃ v', e = .returned (.tuple #[refV now v', r]) ∧ RowOf 3 1 encI w' v' A' ∧ Below w.heap.size w w' ∧ ∀ k, v'.ownBlock = some k → v.ownBlock = some k ∨ w.heap.size ≤ k
theorem Clk.lt_size {w W : World} {B : Nat → Prop} {C : Nat} {c : Ck} (h : Clk w B C c) (hb : Below w.heap.size w W) (k : Nat) (hk : B k) : k < W.heap.size := Nat.lt_of_lt_of_le (h.lt k hk) hb.size
theorem turns_same {w w' : World} {B : Nat → Prop} {C : Nat} {c : Ck} {v : Value} {e : Ending} (h : Clk w B C c) (he : e = .returned v) (hb : Below w.heap.size w w') : Turns w B C c v e w' := ⟨he, B, h.below hb, fun k hk => .inl hk, Kp.of_below hb⟩
/-- What a set makes: what is told, and when each alarm rings then. -/
def setR (now : Int) (A : List Int) (nm a : Int) : Int × List Int :=
  if nm < 0 ∨ (A.length : Int) ≤ nm then (8, A) else if a < now ∨ 4611686018427387904 < a then (3, A) else (0, A.set nm.toNat a)
theorem set_ref {w : World} {now : Int} {A : List Int} {v : Value} (hr : RowOf 3 1 encI w v A) (hl : A.length ≤ 64) (nm a : Int) :
    ∀ W, Below w.heap.size w W → Calls Try.prog 42 #[refV now v, .int .i64 nm, .int .i64 a] W (RefT W now v (setR now A nm a).2 (.int .i64 (setR now A nm a).1)) := by
  intro W hW
  unfold setR
  by_cases hn : nm < 0 ∨ (A.length : Int) ≤ nm
  · rw [if_pos hn]
    exact (rset_kind now v A nm a W (hr.below hW) hn).mono fun e w' ⟨he, hb⟩ => ⟨v, he, (hr.below hW).below hb, hb, fun k hk => .inl hk⟩
  · rw [if_neg hn]
    obtain ⟨k, rfl⟩ := Int.eq_ofNat_of_zero_le (show 0 ≤ nm by omega)
    by_cases ha : a < now ∨ 4611686018427387904 < a
    · rw [if_pos ha]
      exact (rset_range now v A k a W (hr.below hW) (by omega) ha).mono fun e w' ⟨he, hb⟩ => ⟨v, he, (hr.below hW).below hb, hb, fun k hk => .inl hk⟩
    · rw [if_neg ha]
      exact (rset_calls now v A k a W (hr.below hW) (by omega) (by omega) (by omega) (by omega)).mono fun e w' ⟨v', he, h1, h2, h3⟩ => ⟨v', he, h1, h2, fun j hj => .inr (h3 j hj)⟩
theorem set_clk {w : World} {B : Nat → Prop} {C : Nat} {c : Ck} (h : Clk w B C c) (nm a : Int) :
    ∀ W, Below w.heap.size w W → Calls Try.prog 13 #[.pointer (some ⟨C, 0, Option.none⟩), .int .i64 nm, .int .i64 a] W (Turns W B C ⟨c.now, (setR c.now c.A nm a).2⟩ (.int .i64 (setR c.now c.A nm a).1)) := by
  intro W hW
  unfold setR
  by_cases hn : nm < 0 ∨ (c.A.length : Int) ≤ nm
  · rw [if_pos hn]
    exact (set_kind B C c nm a W (h.below hW) hn).mono fun e w' ⟨he, hw⟩ => turns_same (h.below hW) he (hw ▸ Below.refl _ _)
  · rw [if_neg hn]
    obtain ⟨k, rfl⟩ := Int.eq_ofNat_of_zero_le (show 0 ≤ nm by omega)
    by_cases ha : a < c.now ∨ 4611686018427387904 < a
    · rw [if_pos ha]
      exact (set_range B C c k a W (h.below hW) (by omega) ha).mono fun e w' ⟨he, hw⟩ => turns_same (h.below hW) he (hw ▸ Below.refl _ _)
    · rw [if_neg ha]
      exact set_calls B C c k a W (h.below hW) (by omega) (by omega) (by omega)
/-- What a stop makes. -/
def stopR (A : List Int) (nm : Int) : Bool × List Int := if isOn A nm then (true, A.set nm.toNat (-1)) else (false, A)
theorem stop_ref {w : World} {now : Int} {A : List Int} {v : Value} (hr : RowOf 3 1 encI w v A) (hl : A.length ≤ 64) (nm : Int) :
    ∀ W, Below w.heap.size w W → Calls Try.prog 43 #[refV now v, .int .i64 nm] W (RefT W now v (stopR A nm).2 (.bool (stopR A nm).1)) := by
  intro W hW
  unfold stopR
  by_cases hn : isOn A nm
  · rw [if_pos hn]
    obtain ⟨k, rfl⟩ := Int.eq_ofNat_of_zero_le hn.1
    exact (rstop_on now v A k W (hr.below hW) (by simpa using hn.2) (by omega)).mono fun e w' ⟨v', he, h1, h2, h3⟩ => ⟨v', he, h1, h2, fun j hj => .inr (h3 j hj)⟩
  · rw [if_neg hn]
    exact (rstop_off now v A nm W (hr.below hW) hn).mono fun e w' ⟨he, hb⟩ => ⟨v, he, (hr.below hW).below hb, hb, fun k hk => .inl hk⟩
theorem stop_clk {w : World} {B : Nat → Prop} {C : Nat} {c : Ck} (h : Clk w B C c) (nm : Int) (hf : Fits nm) :
    ∀ W, Below w.heap.size w W → Calls Try.prog 14 #[.pointer (some ⟨C, 0, Option.none⟩), .int .i64 nm] W (Turns W B C ⟨c.now, (stopR c.A nm).2⟩ (.bool (stopR c.A nm).1)) := by
  intro W hW
  unfold stopR
  by_cases hn : isOn c.A nm
  · rw [if_pos hn]
    obtain ⟨k, rfl⟩ := Int.eq_ofNat_of_zero_le hn.1
    exact stop_on B C c k W (h.below hW) (by simpa using hn.2)
  · rw [if_neg hn]
    exact (stop_off B C c nm W (h.below hW) hf (by unfold isOn at hn; omega)).mono fun e w' ⟨he, hb⟩ => turns_same (h.below hW) he hb
/-- What comes of an operation with both: of the clock, and of the document's. -/
def Done (w : World) (B : Nat → Prop) (C : Nat) (v : Value) (P : Ck → List Int → Bool → Prop) (e : Ending) (w' : World) : Prop :=
  ∃ v' B' c' A' bv, e = .returned (.tuple #[refV c'.now v', .bool bv]) ∧ Clk w' B' C c' ∧ RowOf 3 1 encI w' v' A' ∧ (∀ k, v'.ownBlock = some k → ¬ B' k ∧ (v.ownBlock = some k ∨ w.heap.size ≤ k)) ∧ (∀ k, B' k → B k ∨ w.heap.size ≤ k) ∧ Kp B w w' ∧ P c' A' bv
/-- The clock and the document's go alike, if they were alike. -/
def Alike (c : Ck) (A : List Int) (c' : Ck) (A' : List Int) (bv : Bool) : Prop := c'.now = c.now ∧ (A = c.A → A' = c'.A ∧ bv = true)
/-- The three boxes at does' door. -/
structure Door (w W : World) (H : Nat) (now : Int) (v : Value) (kd nm n : Int) : Prop where
  b4 : Blk W H 44 #[.int .i64 now, v]
  b5 : Blk W (H + 1) 30 #[.int .u8 kd, .int .i64 nm, .int .i64 n]
  b6 : Blk W (H + 1 + 1) 44 #[.int .i64 0, nilS]
theorem Door.below {w W W' : World} {H : Nat} {now : Int} {v : Value} {kd nm n : Int} (h : Door w W H now v kd nm n) (hb : Below W.heap.size W W') : Door w W' H now v kd nm n := ⟨h.b4.below hb h.b4.lt, h.b5.below hb h.b5.lt, h.b6.below hb h.b6.lt⟩
theorem Door.kp {w W W' : World} {H : Nat} {now : Int} {v : Value} {kd nm n : Int} {B : Nat → Prop} (h : Door w W H now v kd nm n) (hk : Kp B W W') (hB : ∀ k, B k → k < H) : Door w W' H now v kd nm n :=
  ⟨(hk.block H h.b4.lt (fun e => by have := hB _ e; omega)).trans h.b4, (hk.block (H + 1) h.b5.lt (fun e => by have := hB _ e; omega)).trans h.b5, (hk.block (H + 1 + 1) h.b6.lt (fun e => by have := hB _ e; omega)).trans h.b6⟩
theorem door_new (w : World) (now : Int) (v : Value) (kd nm n : Int) : Door w (((w.alloc (.cells #[.int .i64 now, v] 44)).alloc (.cells #[.int .u8 kd, .int .i64 nm, .int .i64 n] 30)).alloc (.cells #[.int .i64 0, nilS] 44)) w.heap.size now v kd nm n ∧ Below w.heap.size w (((w.alloc (.cells #[.int .i64 now, v] 44)).alloc (.cells #[.int .u8 kd, .int .i64 nm, .int .i64 n] 30)).alloc (.cells #[.int .i64 0, nilS] 44)) := by
  have h2 := Blk.new (w.alloc (.cells #[.int .i64 now, v] 44)) 30 #[.int .u8 kd, .int .i64 nm, .int .i64 n]
  have h3 := Blk.new ((w.alloc (.cells #[.int .i64 now, v] 44)).alloc (.cells #[.int .u8 kd, .int .i64 nm, .int .i64 n] 30)) 44 #[.int .i64 0, nilS]
  simp only [World.size_alloc] at h2 h3
  exact ⟨⟨((Blk.new w 44 _).alloc _).alloc _, h2.alloc _, h3⟩, (((Below.refl _ w).alloc (Nat.le_refl _) _).alloc (by simp) _).alloc (by simp; omega) _⟩
theorem done_end {w W1 W2 W3 : World} {B : Nat → Prop} {C H : Nat} {c : Ck} {v v' : Value} {A' A2 : List Int} {bv : Bool} {P : Ck → List Int → Bool → Prop} {r : Value} {e : Ending} (h : Clk w B C c) (hH : H = w.heap.size) (hX : H + 1 + 1 < W1.heap.size) (hv : ∀ k, v.ownBlock = some k → ¬ B k)
    (b1 : Below w.heap.size w W1) (hr : RowOf 3 1 encI W1 v' A2) (ho : ∀ k, v'.ownBlock = some k → v.ownBlock = some k ∨ H < k) (b2 : Below W1.heap.size W1 W2) (ht : Turns W2 B C ⟨c.now, A'⟩ r e W3) (hd : Blk W3 (H + 1 + 1) 44 #[.int .i64 0, nilS]) (h6 : ∀ k, v'.ownBlock = some k → k ≠ H + 1 + 1) (hP : P ⟨c.now, A'⟩ A2 bv) :
    Done w B C v P (.returned (.tuple #[refV c.now v', .bool bv])) ((W3.setCell ⟨H + 1 + 1, 0, Option.none⟩ (.int .i64 c.now)).setCell ⟨H + 1 + 1, 1, Option.none⟩ v') := by
  obtain ⟨_, B', h1, h2, h3⟩ := ht
  have s1 := b1.size
  have s2 := b2.size
  have b12 := below_then b1 s1 b2
  have hBl : ∀ k, B k → k < w.heap.size := fun k hk => h.lt k hk
  have keep : ∀ k, k ≠ H + 1 + 1 → ((W3.setCell ⟨H + 1 + 1, 0, Option.none⟩ (.int .i64 c.now)).setCell ⟨H + 1 + 1, 1, Option.none⟩ v').heap[k]? = W3.heap[k]? := fun k hk => (Below.heap_setCell _ _ _ k hk).trans (Below.heap_setCell _ _ _ k hk)
  have hnB : ¬ B' (H + 1 + 1) := fun hb => by
    rcases h2 _ hb with e | e
    · have := hBl _ e; omega
    · omega
  have hrow3 : RowOf 3 1 encI W3 v' A2 := (hr.below b2).same (fun k hk => h3.block k ((hr.below b2).lt k hk) (fun hb => by
    rcases ho k hk with e | e
    · exact hv k e hb
    · have := hBl k hb; omega))
  refine ⟨v', B', ⟨c.now, A'⟩, A2, bv, rfl, h1.same (fun k hk => keep k (fun e => hnB (e ▸ hk))), hrow3.same (fun k hk => keep k (h6 k hk)), fun k hk => ⟨fun hb => ?_, ?_⟩, fun k hk => (h2 k hk).imp id (fun e => by have := b12.size; omega), ?_, hP⟩
  · have hlt := (hr.below b2).lt k hk
    rcases h2 k hb with e | e
    · rcases ho k hk with e2 | e2
      · exact hv k e2 e
      · have := hBl k e; omega
    · omega
  · rcases ho k hk with e | e
    · exact .inl e
    · exact .inr (by omega)
  · have k3 := (Kp.of_below (B := B) b12).trans h3 (fun _ h => .inl h)
    exact ⟨k3.os, k3.tape, k3.output, by simpa [World.setCell] using k3.size, fun k h4 h5 => (keep k (by omega)).trans (k3.block k h4 h5)⟩
end Go.Proofs.Ytiphkgkhfomcaaa.Alarm
