/- Chapter 13 (alarm): alarms that are set, as they lie in memory; an entry of a map written in its place; Len, before. -/
import Derived.Test.YtiphkgkhfomcaaaHeap
import Derived.Test.YtiphkgkhfomcaaaRowLaw
import Derived.Test.YtiphkgkhfomcaaaDuct
import Derived.WideKeyEntry
import Derived.BigRegion
set_option linter.unusedSimpArgs false
set_option linter.unusedVariables false
attribute [local go_sem ↓] Go.wp_at_zero Go.wp_at_succ
namespace Go.Proofs.Ytiphkgkhfomcaaa.Alarm
open Go.BigFrame Go.RowKit Go.OpenShut Go.Proofs.Ytiphkgkhfomcaaa.Aid Go.Proofs.Ytiphkgkhfomcaaa.DMap Go.Proofs.Ytiphkgkhfomcaaa.Heap
section
open Go.WideElems Go.ChangeMaps
theorem block_self {w : World} {b : Nat} {o : Obj} (hb : w.heap[b]? = some o) : setBlock w b o = w := by
  have e : w.heap.setIfInBounds b o = w.heap := by
    apply Array.ext_getElem?
    intro i
    rw [Array.getElem?_setIfInBounds]
    split
    · rename_i h; subst h
      split
      · exact hb.symm
      · rename_i h2; rw [Array.getElem?_eq_none (by omega)] at hb; cases hb
    · rfl
  unfold setBlock
  rw [e]
/-- An entry that is there is looked up for writing: nothing turns, and what is written behind it is as 'm[i] = v'. -/
theorem entry {w : World} {b sz : Nat} {z : Value} {m : Int → Option Value} (h : MapOf w b z m sz) {t e : TypeId} (ht : Try.prog.underlying t = some (.map 3 e)) (hz : (zeroValue e).run Try.prog w = .ok z w) {i : Int} (hi : Fits i) (hm : (m i).isSome = true) :
    ∃ (v0 : Value) (st : Nat), (Instr.mapEntry t (.map (some b)) (.int .i64 i)).run Try.prog w = .ok (.tuple #[v0, .int .i64 st]) w ∧
      ∀ val, (Instr.entryStore t (.map (some b)) (.int .i64 st) val).run Try.prog w = (Instr.mapUpdate t (.map (some b)) (.int .i64 i) val).run Try.prog w := by
  have hl := h.look ht hz hi
  rw [hm] at hl
  obtain ⟨D, ⟨es, clock, hb, F, hs, rfl⟩, _, _⟩ := h
  obtain ⟨s1, s2, _⟩ := F.stamped
  have K := keyed3
  have hkey := keyOf_key hi
  rcases K.find w hkey es.toList F.keys with ⟨h1, h2⟩ | ⟨j, e0, h1, h2, h3⟩
  · exfalso
    simp [Instr.lookup, run_underlying ht, MapKept.run_getObj_map hb, K.check w _ hkey, h1, hz, Result.andThen] at hl
  · have hj : es[j]? = some e0 := by simpa using h2
    have hsame : es.modify j (fun e => { e with key := .int .i64 i }) = es := by
      apply Array.ext'
      rw [Array.toList_modify, modify_eq_set _ _ _ _ h2]
      have : ({ e0 with key := .int .i64 i } : MapEntry) = e0 := by rw [← h3]
      rw [this]
      exact set_self _ _ _ h2
    refine ⟨e0.val, e0.born, ?_, fun val => ?_⟩
    · have := block_self hb
      unfold setBlock at this
      simp [Instr.mapEntry, run_underlying ht, MapKept.run_getObj_map hb, K.check w false hkey, h1, hj, h3, K.stays w hkey, hsame, MapKept.run_setObj_map _ hb, Result.andThen, goInt, this]
    · have hidx : es.findIdx? (fun e => ((e.born : Nat) : Int) == ((e0.born : Nat) : Int)) = some j := by
        rw [findIdx_arr]
        exact findIdx_born s2 h2
      have hmod : es.modify j (fun e => { e with val := val }) = es.modify j (fun e' => { e' with key := .int .i64 i, val := val }) := by
        apply Array.ext'
        rw [Array.toList_modify, Array.toList_modify, modify_eq_set _ _ _ _ h2, modify_eq_set _ _ _ _ h2, ← h3]
      simp [Instr.entryStore, Instr.mapUpdate, run_underlying ht, K.check w false hkey, h1, hj, h3, K.stays w hkey, MapKept.run_getObj_map hb, asInt, asIntOf, goInt, hidx, hmod, MapKept.run_setObj_map _ hb, Result.andThen]
end
def encR (r : Ring) : List Value := [.int .i64 r.at_, .int .i64 r.name]
theorem encR_len (r : Ring) : (encR r).length = 2 := rfl
theorem encR_one (r : Ring) : ∀ u ∈ encR r, u.oneCell' = true := by
  intro u hu
  simp [encR] at hu
  rcases hu with rfl | rfl <;> rfl
abbrev ringV (r : Ring) : Value := .agg #[.int .i64 r.at_, .int .i64 r.name]
theorem flat_set (i : Nat) (u : Value) (hi : i < 2) (x' : Ring) : ∀ (l : List Ring) (k : Nat) (x : Ring), l[k]? = some x → encR x' = (encR x).set i u → (l.flatMap encR).set (k * 2 + i) u = (l.set k x').flatMap encR
  | [], k, x, h, _ => by simp at h
  | y :: r, 0, x, h, e => by
    obtain rfl : y = x := by simpa using h
    simp only [List.flatMap_cons, List.set_cons_zero, Nat.zero_mul, Nat.zero_add, e]
    rw [List.set_append_left _ _ (by rw [encR_len]; exact hi)]
  | y :: r, k + 1, x, h, e => by
    have := flat_set i u hi x' r k x (by simpa using h) e
    simp only [List.flatMap_cons, List.set_cons_succ]
    rw [List.set_append_right _ _ (by rw [encR_len]; omega), encR_len, ← this]
    congr 2
    omega
theorem row_set {w : World} {b n cap : Nat} {l : List Ring} (h : RowOf 100 2 encR w (.slice (some ⟨b, 0, Option.none⟩) n cap) l) (k i : Nat) (u : Value) (hi : i < 2) (x x' : Ring) (hx : l[k]? = some x) (e : encR x' = (encR x).set i u) :
    RowOf 100 2 encR (w.setCell ⟨b, k * 2 + i, Option.none⟩ u) (.slice (some ⟨b, 0, Option.none⟩) n cap) (l.set k x') := by
  obtain ⟨h0, _⟩ | ⟨b', cap', cur, h0, h1, h2, h3, h4, h5⟩ := h
  · injection h0 with h0
    cases h0
  · injection h0 with e1 e2 e3
    obtain rfl : b = b' := by simpa using e1
    subst e2 e3
    refine .inr ⟨b, cap, cur.setIfInBounds (k * 2 + i) u, by simp, by simpa using h1, h2, Blk.set_ (t := 100) h3 (k * 2 + i) u, by simpa using h4, ?_⟩
    rw [List.length_set, Array.toList_setIfInBounds, List.take_set, h5]
    exact flat_set i u hi x' l k x hx e
/-- A whole ring is written. -/
theorem row_ring {w : World} {b n cap : Nat} {l : List Ring} (h : RowOf 100 2 encR w (.slice (some ⟨b, 0, Option.none⟩) n cap) l) (k : Nat) (x : Ring) (hk : k < l.length) :
    RowOf 100 2 encR ((w.setCell ⟨b, k * 2, Option.none⟩ (.int .i64 x.at_)).setCell ⟨b, k * 2 + 1, Option.none⟩ (.int .i64 x.name)) (.slice (some ⟨b, 0, Option.none⟩) n cap) (l.set k x) := by
  have h1 := row_set h k 0 (.int .i64 x.at_) (by omega) (l[k]) ⟨x.at_, (l[k]).name⟩ (by simp [hk]) rfl
  have h2 := row_set h1 k 1 (.int .i64 x.name) (by omega) ⟨x.at_, (l[k]).name⟩ x (by simp [hk]) rfl
  rw [List.set_set] at h2
  exact h2
theorem row_cells {w : World} {b n cap : Nat} {l : List Ring} (h : RowOf 100 2 encR w (.slice (some ⟨b, 0, Option.none⟩) n cap) l) (k : Nat) (hk : k < l.length) :
    w.cell? ⟨b, k * 2, Option.none⟩ = some (.int .i64 (g l k).at_) ∧ w.cell? ⟨b, k * 2 + 1, Option.none⟩ = some (.int .i64 (g l k).name) :=
  ⟨h.cell encR_len _ _ (flat_get encR 2 encR_len l k _ 0 _ (get_g hk) rfl), h.cell encR_len _ _ (flat_get encR 2 encR_len l k _ 1 _ (get_g hk) rfl)⟩
theorem row_frozen {w : World} {b n cap : Nat} {l : List Ring} (h : RowOf 100 2 encR w (.slice (some ⟨b, 0, Option.none⟩) n cap) l) : ∀ i, w.frozen? ⟨b, i, Option.none⟩ = false := by
  obtain ⟨h0, _⟩ | ⟨b', cap', cur, h0, _, _, h3, _⟩ := h
  · injection h0 with h0; cases h0
  · injection h0 with h0
    obtain rfl : b = b' := by simpa using h0
    exact fun i => Blk.frozen h3 i
def Gives (w : World) (v : Value) (e : Ending) (w' : World) : Prop := e = .returned v ∧ Below w.heap.size w w'
/-- What is none of these blocks is kept. -/
structure Kp (B : Nat → Prop) (w w' : World) : Prop where
  os : w'.os = w.os
  tape : w'.tape = w.tape
  output : w'.output = w.output
  size : w.heap.size ≤ w'.heap.size
  block : ∀ k, k < w.heap.size → ¬ B k → w'.heap[k]? = w.heap[k]?
theorem Kp.refl (B : Nat → Prop) (w : World) : Kp B w w := ⟨rfl, rfl, rfl, Nat.le_refl _, fun _ _ _ => rfl⟩
theorem Kp.below {B : Nat → Prop} {w w1 w2 : World} (h : Kp B w w1) (hb : Below w1.heap.size w1 w2) : Kp B w w2 :=
  ⟨hb.os.trans h.os, hb.tape.trans h.tape, hb.output.trans h.output, Nat.le_trans h.size hb.size, fun k h1 h2 => (hb.block k (Nat.lt_of_lt_of_le h1 h.size)).trans (h.block k h1 h2)⟩
theorem Kp.of_below {B : Nat → Prop} {w w2 : World} (hb : Below w.heap.size w w2) : Kp B w w2 := (Kp.refl B w).below hb
theorem Kp.trans {B C : Nat → Prop} {w w1 w2 : World} (h : Kp B w w1) (k : Kp C w1 w2) (hBC : ∀ j, C j → B j ∨ w.heap.size ≤ j) : Kp B w w2 :=
  ⟨k.os.trans h.os, k.tape.trans h.tape, k.output.trans h.output, Nat.le_trans h.size k.size, fun j h1 h2 => (k.block j (Nat.lt_of_lt_of_le h1 h.size) (fun hc => (hBC j hc).elim h2 (fun h3 => by omega))).trans (h.block j h1 h2)⟩
theorem Kp.more {B C : Nat → Prop} {w w1 : World} (h : Kp B w w1) (hBC : ∀ j, B j → C j) : Kp C w w1 := ⟨h.os, h.tape, h.output, h.size, fun j h1 h2 => h.block j h1 (fun hb => h2 (hBC j hb))⟩
/-- The blocks of the alarms that are set. -/
def rb (R mb : Nat) (fv : Value) (k : Nat) : Prop := k = R ∨ k = mb ∨ fv.ownBlock = some k
structure IsRings (w : World) (R mb : Nat) (fv : Value) (m : Int → Option Value) (l : List Ring) : Prop where
  box : Blk w R 93 #[fv, .map (some mb)]
  row : RowOf 100 2 encR w fv l
  map : MapOf w mb (.int .i64 0) m l.length
  plc : Plc m l
  gm : R ≠ mb
  fg : fv.ownBlock ≠ some R
  fm : fv.ownBlock ≠ some mb
  len : l.length ≤ 1000
  fit : ∀ k, k < l.length → Fits (g l k).name
theorem IsRings.same {w w' : World} {R mb : Nat} {fv : Value} {m : Int → Option Value} {l : List Ring} (h : IsRings w R mb fv m l) (hb : ∀ k, rb R mb fv k → w'.heap[k]? = w.heap[k]?) : IsRings w' R mb fv m l :=
  ⟨(hb R (.inl rfl)).trans h.box, h.row.same (fun k hk => hb k (.inr (.inr hk))), by
    obtain ⟨D, ⟨es, cl, e1, e2⟩, h2⟩ := h.map
    exact ⟨D, ⟨es, cl, (hb mb (.inr (.inl rfl))).trans e1, e2⟩, h2⟩, h.plc, h.gm, h.fg, h.fm, h.len, h.fit⟩
theorem IsRings.lt {w : World} {R mb : Nat} {fv : Value} {m : Int → Option Value} {l : List Ring} (h : IsRings w R mb fv m l) (k : Nat) (hk : rb R mb fv k) : k < w.heap.size := by
  rcases hk with rfl | rfl | hk
  · exact h.box.lt
  · exact h.map.lt
  · exact h.row.lt k hk
theorem IsRings.below {w w' : World} {R mb : Nat} {fv : Value} {m : Int → Option Value} {l : List Ring} (h : IsRings w R mb fv m l) (hb : Below w.heap.size w w') : IsRings w' R mb fv m l := h.same fun k hk => hb.block k (h.lt k hk)
def Same (w : World) (v : Value) (e : Ending) (w' : World) : Prop := e = .returned v ∧ w = w'
theorem rlen_calls (R mb : Nat) (fv : Value) (m : Int → Option Value) (l : List Ring) (w : World) (h : IsRings w R mb fv m l) : Calls Try.prog 46 #[.pointer (some ⟨R, 0, Option.none⟩)] w (Same w (.int .i64 l.length)) := by
  obtain ⟨A, c, rfl, _⟩ := h.row.slice
  have c0 := h.box.cell 0
  simp at c0
  clear h
  go_enter Try.func46, Try.ntmps46
  go_wp2
  go_ret
  exact ⟨rfl, rfl⟩
instance (a b : Ring) : Decidable (lt a b) := inferInstanceAs (Decidable (_ ∨ _))
def ltb (a b : Ring) : Bool := decide (lt a b)
theorem before_calls (a b : Ring) (w : World) : Calls Try.prog 114 #[ringV a, ringV b] w (Gives w (.bool (ltb a b))) := by
  obtain ⟨x, p⟩ := a
  obtain ⟨y, q⟩ := b
  have hB : Below w.heap.size w ((w.alloc (.cells #[.int .i64 x, .int .i64 p] 100)).alloc (.cells #[.int .i64 y, .int .i64 q] 100)) := ((Below.refl _ w).alloc (Nat.le_refl _) _).alloc (by simp) _
  by_cases h1 : x < y
  · have e : ltb ⟨x, p⟩ ⟨y, q⟩ = true := decide_eq_true (.inl h1)
    rw [e]
    go_enter Try.func114, Try.ntmps114
    go_wp2
    go_ret
    exact ⟨rfl, hB⟩
  · by_cases h2 : x = y
    · by_cases h3 : p < q
      · have e : ltb ⟨x, p⟩ ⟨y, q⟩ = true := decide_eq_true (.inr ⟨h2, h3⟩)
        rw [e]
        subst h2
        go_enter Try.func114, Try.ntmps114
        go_wp2
        go_ret
        exact ⟨rfl, hB⟩
      · have e : ltb ⟨x, p⟩ ⟨y, q⟩ = false := decide_eq_false (by unfold lt; simp only; omega)
        rw [e]
        subst h2
        go_enter Try.func114, Try.ntmps114
        go_wp2
        go_ret
        exact ⟨rfl, hB⟩
    · have e : ltb ⟨x, p⟩ ⟨y, q⟩ = false := decide_eq_false (by unfold lt; simp only; omega)
      rw [e]
      go_enter Try.func114, Try.ntmps114
      go_wp2
      go_ret
      exact ⟨rfl, hB⟩
end Go.Proofs.Ytiphkgkhfomcaaa.Alarm
