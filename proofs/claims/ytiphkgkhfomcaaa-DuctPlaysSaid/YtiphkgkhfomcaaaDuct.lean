/- Chapter 25 (duct): its state as it lies in memory; New, ask, Len, Total. -/
import Derived.Test.YtiphkgkhfomcaaaMap
import Derived.Test.YtiphkgkhfomcaaaBytes
set_option linter.unusedSimpArgs false
set_option linter.unusedVariables false
attribute [local go_sem ↓] Go.wp_at_zero Go.wp_at_succ
namespace Go.Proofs.Ytiphkgkhfomcaaa.Duct
open Go.BigFrame Go.RowKit Go.OpenShut Go.Proofs.Ytiphkgkhfomcaaa.Aid Go.Proofs.Ytiphkgkhfomcaaa.DMap Go.Proofs.Ytiphkgkhfomcaaa.Byt
structure Fate where
  of_ : Int
  at_ : Int
  en : Int
  kind : Int
deriving Inhabited, DecidableEq
def encF (f : Fate) : List Value := [.int .i64 f.of_, .int .i64 f.at_, .int .i64 f.en, .int .i64 f.kind]
theorem encF_len (f : Fate) : (encF f).length = 4 := rfl
theorem encF_one (f : Fate) : ∀ u ∈ encF f, u.oneCell' = true := by
  intro u hu
  simp [encF] at hu
  rcases hu with rfl | rfl | rfl | rfl <;> rfl
/-- A duct, told: when it was last used, what became of each copy, the bytes of those under way, and how many are. -/
structure Dt where
  last : Int
  fates : List Fate
  raws : Int → Option (List Int)
  n : Nat
abbrev nilS : Value := .slice Option.none 0 0
structure IsDuct (w : World) (g mb : Nat) (fv : Value) (m : Int → Option Value) (L : Dt) : Prop where
  box : Blk w g 112 #[.int .i64 L.last, fv, .map (some mb)]
  row : RowOf 65 4 encF w fv L.fates
  map : MapOf w mb nilS m L.n
  raw : ∀ i, (m i = Option.none ∧ L.raws i = Option.none) ∨ ∃ v xs, m i = some v ∧ L.raws i = some xs ∧ RowOf 5 1 encB w v xs ∧ xs.length ≤ 2096 ∧ (∀ k, v.ownBlock = some k → k ≠ g ∧ k ≠ mb ∧ fv.ownBlock ≠ some k)
  ids : ∀ i xs, L.raws i = some xs → 0 ≤ i ∧ i < L.fates.length
  gm : g ≠ mb
  fg : fv.ownBlock ≠ some g
  fm : fv.ownBlock ≠ some mb
  len : L.fates.length ≤ 1000000
  cnt : L.n ≤ L.fates.length
  l0 : 0 ≤ L.last
  l1 : L.last ≤ 4611686018427387904
/-- What is none of a duct's own is kept. -/
structure Keeps (w w' : World) (g mb : Nat) (fv : Value) : Prop where
  os : w'.os = w.os
  tape : w'.tape = w.tape
  output : w'.output = w.output
  size : w.heap.size ≤ w'.heap.size
  block : ∀ k, k < w.heap.size → k ≠ g → k ≠ mb → fv.ownBlock ≠ some k → w'.heap[k]? = w.heap[k]?
theorem keeps_refl (w : World) (g mb : Nat) (fv : Value) : Keeps w w g mb fv := ⟨rfl, rfl, rfl, Nat.le_refl _, fun _ _ _ _ _ => rfl⟩
theorem keeps_below {w w1 w2 : World} {g mb : Nat} {fv : Value} (h : Keeps w w1 g mb fv) (hb : Below w1.heap.size w1 w2) : Keeps w w2 g mb fv :=
  ⟨hb.os.trans h.os, hb.tape.trans h.tape, hb.output.trans h.output, Nat.le_trans h.size hb.size, fun k h1 h2 h3 h4 => (hb.block k (Nat.lt_of_lt_of_le h1 h.size)).trans (h.block k h1 h2 h3 h4)⟩
theorem below_keeps {w w1 w2 : World} {g mb : Nat} {fv : Value} (hb : Below w.heap.size w w1) (h : Keeps w1 w2 g mb fv) : Keeps w w2 g mb fv :=
  ⟨h.os.trans hb.os, h.tape.trans hb.tape, h.output.trans hb.output, Nat.le_trans hb.size h.size, fun k h1 h2 h3 h4 => (h.block k (Nat.lt_of_lt_of_le h1 hb.size) h2 h3 h4).trans (hb.block k h1)⟩
theorem keeps_set {w w1 : World} {g mb : Nat} {fv : Value} (h : Keeps w w1 g mb fv) (i : Nat) (u : Value) : Keeps w (w1.setCell ⟨g, i, Option.none⟩ u) g mb fv :=
  ⟨h.os, h.tape, h.output, by simpa [World.setCell] using h.size, fun k h1 h2 h3 h4 => (Below.heap_setCell _ _ _ k h2).trans (h.block k h1 h2 h3 h4)⟩
theorem IsDuct.below {w w' : World} {g mb : Nat} {fv : Value} {m : Int → Option Value} {L : Dt} (h : IsDuct w g mb fv m L) (hb : Below w.heap.size w w') : IsDuct w' g mb fv m L :=
  ⟨h.box.below hb h.box.lt, h.row.below hb, h.map.below hb, fun i => (h.raw i).imp id (fun ⟨v, xs, a, b, c, d, e⟩ => ⟨v, xs, a, b, c.below hb, d, e⟩), h.ids, h.gm, h.fg, h.fm, h.len, h.cnt, h.l0, h.l1⟩
def Same (w : World) (v : Value) (e : Ending) (w' : World) : Prop := e = .returned v ∧ w = w'
def empty : Dt := ⟨0, [], fun _ => Option.none, 0⟩
def New (w : World) (e : Ending) (w' : World) : Prop := ∃ g mb m, e = .returned (.pointer (some ⟨g, 0, Option.none⟩)) ∧ IsDuct w' g mb nilS m empty ∧ Below w.heap.size w w' ∧ w.heap.size ≤ g ∧ w.heap.size ≤ mb
theorem new_calls (w : World) : Calls Try.prog 26 #[] w (New w) := by
  have hmm := @run_makeMap Try.prog
  go_enter Try.func26, Try.ntmps26
  go_wp2
  go_ret
  refine ⟨w.heap.size + 1, w.heap.size, fun _ => Option.none, rfl, ?_, ((Below.refl _ w).alloc (Nat.le_refl _) _).alloc (by simp) _, by omega, Nat.le_refl _⟩
  have X := Blk.new (w.alloc (.map #[] 0)) 112 #[.int .i64 0, nilS, .map (some w.heap.size)]
  rw [World.size_alloc] at X
  exact ⟨X, .inl ⟨rfl, rfl⟩, (MapOf.made w nilS).below ((Below.refl _ _).alloc (Nat.le_refl _) _), fun i => .inl ⟨rfl, rfl⟩, fun i xs h => by simp [empty] at h, by omega, by simp [nilS, Value.ownBlock], by simp [nilS, Value.ownBlock], by simp [empty], by simp [empty], by simp [empty], by simp [empty]⟩
theorem ask_none (now : Int) (w : World) : Calls Try.prog 50 #[.pointer Option.none, .int .i64 now] w (Same w (.int .i64 1)) := by
  go_enter Try.func50, Try.ntmps50
  go_wp2
  go_ret
  exact ⟨rfl, rfl⟩
theorem ask_bad (g mb : Nat) (fv : Value) (m : Int → Option Value) (L : Dt) (now : Int) (w : World) (h : IsDuct w g mb fv m L) (hn : now < L.last ∨ 4611686018427387904 < now) : Calls Try.prog 50 #[.pointer (some ⟨g, 0, Option.none⟩), .int .i64 now] w (Same w (.int .i64 3)) := by
  have c0 := h.box.cell 0
  simp at c0
  have h1 : now < L.last ∨ (¬ now < L.last ∧ 4611686018427387904 < now) := by omega
  clear h hn
  generalize L.last = la at *
  rcases h1 with h1 | ⟨h1, h2⟩
  · go_enter Try.func50, Try.ntmps50
    go_wp2
    go_ret
    exact ⟨rfl, rfl⟩
  · go_enter Try.func50, Try.ntmps50
    go_wp2
    go_ret
    exact ⟨rfl, rfl⟩
theorem ask_ok (g mb : Nat) (fv : Value) (m : Int → Option Value) (L : Dt) (now : Int) (w : World) (h : IsDuct w g mb fv m L) (h1 : L.last ≤ now) (h2 : now ≤ 4611686018427387904) : Calls Try.prog 50 #[.pointer (some ⟨g, 0, Option.none⟩), .int .i64 now] w (Same w (.int .i64 0)) := by
  have c0 := h.box.cell 0
  simp at c0
  have h1' : ¬ now < L.last := by omega
  have h2' : ¬ 4611686018427387904 < now := by omega
  clear h h1 h2
  generalize L.last = la at *
  go_enter Try.func50, Try.ntmps50
  go_wp2
  go_ret
  exact ⟨rfl, rfl⟩
theorem len_none (w : World) : Calls Try.prog 32 #[.pointer Option.none] w (Same w (.int .i64 0)) := by
  go_enter Try.func32, Try.ntmps32
  go_wp2
  go_ret
  exact ⟨rfl, rfl⟩
theorem len_calls (g mb : Nat) (fv : Value) (m : Int → Option Value) (L : Dt) (w : World) (h : IsDuct w g mb fv m L) : Calls Try.prog 32 #[.pointer (some ⟨g, 0, Option.none⟩)] w (Same w (.int .i64 L.n)) := by
  have c2 := h.box.cell 2
  simp at c2
  have hl := fun ty => h.map.len Try.underlying109 ty
  clear h
  go_enter Try.func32, Try.ntmps32
  go_wp2
  go_ret
  exact ⟨rfl, rfl⟩
theorem total_none (w : World) : Calls Try.prog 33 #[.pointer Option.none] w (Same w (.int .i64 0)) := by
  go_enter Try.func33, Try.ntmps33
  go_wp2
  go_ret
  exact ⟨rfl, rfl⟩
theorem total_calls (g mb : Nat) (fv : Value) (m : Int → Option Value) (L : Dt) (w : World) (h : IsDuct w g mb fv m L) : Calls Try.prog 33 #[.pointer (some ⟨g, 0, Option.none⟩)] w (Same w (.int .i64 L.fates.length)) := by
  obtain ⟨A, c, rfl, _⟩ := h.row.slice
  have c1 := h.box.cell 1
  simp at c1
  clear h
  go_enter Try.func33, Try.ntmps33
  go_wp2
  go_ret
  exact ⟨rfl, rfl⟩
end Go.Proofs.Ytiphkgkhfomcaaa.Duct
