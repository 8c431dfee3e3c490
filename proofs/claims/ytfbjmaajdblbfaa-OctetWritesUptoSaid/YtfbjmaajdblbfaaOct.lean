/- Chapter 02 (octet): a writer, and what is put behind it. -/
import Derived.Test.YtfbjmaajdblbfaaProg
import Derived.Test.YtfbjmaajdblbfaaRowLaw
import Derived.WalkKit
import Derived.WalkSpells
import Derived.WalkLawsBesides
import Derived.RegionTactic
import Derived.ChangeAlike
import Derived.Deep.QuietTactic
import Derived.BigQuiet
import Derived.BigRegion
import Derived.Deep.RegionHeld3
import Derived.Deep.RegionWith
import Derived.Deep.RegionLaw
import Derived.Deep.DrawnRows
import Derived.OpenShut
import Derived.LoopNIn
import Derived.Lib.Hide
set_option linter.unusedSimpArgs false
set_option linter.unusedVariables false
attribute [local go_sem ↓] Go.wp_at_zero Go.wp_at_succ
namespace Go.Proofs.Ytfbjmaajdblbfaa.Oct
open Go.RowKit Go.OpenShut Go.Proofs.Ytfbjmaajdblbfaa.Aid
def encB (x : Int) : List Value := [.int .u8 x]
theorem encB_len (x : Int) : (encB x).length = 1 := rfl
theorem encB_one (x : Int) : ∀ u ∈ encB x, u.oneCell' = true := by intro u hu; simp [encB] at hu; rw [hu]; rfl
theorem info5 : (Try.prog.info? 5).map (fun i => (i.zero, i.size, i.bytes)) = some (some (.int .u8 0), 1, 1) := by kernel_rfl
/-- A writer at block g: one cell, its list, which lies in a block of its own. -/
structure IsW (W : World) (g : Nat) (v : Value) (xs : List Int) : Prop where
  box : Blk W g 47 #[v]
  row : RowOf 5 1 encB W v xs
  apart : v.ownBlock ≠ some g
/-- Nothing but the writer's own blocks has turned. -/
structure Kept (w w' : World) (g : Nat) (v : Value) : Prop where
  os : w'.os = w.os
  tape : w'.tape = w.tape
  output : w'.output = w.output
  size : w.heap.size ≤ w'.heap.size
  block : ∀ k, k < w.heap.size → k ≠ g → v.ownBlock ≠ some k → w'.heap[k]? = w.heap[k]?
/-- A writer that has come from another state of it. -/
structure From_ (w W : World) (g : Nat) (v0 v : Value) (xs : List Int) : Prop where
  isW : IsW W g v xs
  kept : Kept w W g v0
  own : ∀ k, v.ownBlock = some k → v0.ownBlock = some k ∨ w.heap.size ≤ k
def Puts (w : World) (g : Nat) (v : Value) (r : Value) (xs' : List Int) (e : Ending) (w' : World) : Prop :=
  e = .returned r ∧ ∃ v', From_ w w' g v v' xs'
theorem own_ne {w : World} {g : Nat} {v : Value} {xs : List Int} (h : IsW w g v xs) (k : Nat) (hk : v.ownBlock = some k) : k ≠ g := fun e => h.apart (e ▸ hk)
theorem kept_refl (w : World) (g : Nat) (v : Value) : Kept w w g v := ⟨rfl, rfl, rfl, Nat.le_refl _, fun _ _ _ _ => rfl⟩
theorem from_refl {w : World} {g : Nat} {v : Value} {xs : List Int} (h : IsW w g v xs) : From_ w w g v v xs := ⟨h, kept_refl _ _ _, fun k hk => .inl hk⟩
theorem kept_trans {a b c : World} {g : Nat} {v v2 : Value} (h : Kept a b g v) (k : Kept b c g v2) (ho : ∀ k, v2.ownBlock = some k → v.ownBlock = some k ∨ a.heap.size ≤ k) : Kept a c g v :=
  ⟨k.os.trans h.os, k.tape.trans h.tape, k.output.trans h.output, Nat.le_trans h.size k.size, fun i hi h1 h2 => (k.block i (Nat.lt_of_lt_of_le hi h.size) h1 (fun e => by
    rcases ho i e with h3 | h3
    · exact h2 h3
    · omega)).trans (h.block i hi h1 h2)⟩
theorem from_trans {a b c : World} {g : Nat} {v v2 v3 : Value} {xs ys : List Int} (h : From_ a b g v v2 xs) (k : From_ b c g v2 v3 ys) : From_ a c g v v3 ys :=
  ⟨k.isW, kept_trans h.kept k.kept h.own, fun i hi => by
    rcases k.own i hi with h1 | h1
    · exact h.own i h1
    · have := h.kept.size
      exact .inr (by omega)⟩
theorem isW_below {w w' : World} {g : Nat} {v : Value} {xs : List Int} (h : IsW w g v xs) (hb : Below w.heap.size w w') : IsW w' g v xs := ⟨h.box.below hb h.box.lt, h.row.below hb, h.apart⟩
theorem kept_below {w w' : World} {g : Nat} {v : Value} (hb : Below w.heap.size w w') : Kept w w' g v := ⟨hb.os, hb.tape, hb.output, hb.size, fun k hk _ _ => hb.block k hk⟩
/-- Behind an append, and the store of what it made. -/
theorem from_append {w W w' : World} {g : Nat} {v v' : Value} {xs ys : List Int} (h : IsW w g v xs) (hb : Below w.heap.size w W) (hr : RowOf 5 1 encB w' v' (xs ++ ys)) (ha : App W w' v v') : From_ w (w'.setCell ⟨g, 0, none⟩ v') g v v' (xs ++ ys) := by
  have hne : ∀ k, v'.ownBlock = some k → k ≠ g := fun k hk => by
    rcases ha.own k hk with h1 | h1
    · exact own_ne h k h1
    · have := h.box.lt
      have := hb.size
      omega
  have hbx : Blk w' g 47 #[v] := (ha.block g (Nat.lt_of_lt_of_le h.box.lt hb.size) h.apart).trans (h.box.below hb h.box.lt)
  refine ⟨⟨hbx.set_ 0 v', hr.same (fun k hk => Below.heap_setCell _ _ _ k (hne k hk)), fun e => hne g e rfl⟩, ⟨ha.os.trans hb.os, ha.tape.trans hb.tape, ha.output.trans hb.output, ?_, ?_⟩, ?_⟩
  · have := ha.size
    have := hb.size
    simp [World.setCell]
    omega
  · intro k hk h1 h2
    exact (Below.heap_setCell w' ⟨g, 0, none⟩ v' k h1).trans ((ha.block k (Nat.lt_of_lt_of_le hk hb.size) h2).trans (hb.block k hk))
  · intro k hk
    rcases ha.own k hk with h1 | h1
    · exact .inl h1
    · have := hb.size
      exact .inr (by omega)
def dig (n : Int) (i : Nat) : Int := n / 256 ^ i % 256
/-- The bytes of a number from the highest one down to the j-th. -/
def bes (n : Int) (s j : Nat) : List Int := (List.range (s - j)).map fun t => dig n (s - 1 - t)
theorem bes_step (n : Int) (s j : Nat) (h : j < s) : bes n s j = bes n s (j + 1) ++ [dig n j] := by
  unfold bes
  rw [show s - j = (s - (j + 1)) + 1 by omega, List.range_succ, List.map_append]
  congr 1
  simp
  congr 1
  omega
theorem bes_len (n : Int) (s j : Nat) : (bes n s j).length = s - j := by simp [bes]
theorem row_alloc {w : World} {v : Value} {xs : List Int} (h : RowOf 5 1 encB w v xs) (o : Obj) : RowOf 5 1 encB (w.alloc o) v xs := h.same fun k hk => Below.heap_alloc w o k (h.lt k hk)
theorem row_drew {w : World} {v : Value} {xs : List Int} (h : RowOf 5 1 encB w v xs) : RowOf 5 1 encB w.drew v xs := h
theorem src_byte {W : World} {H : Nat} {t : TypeId} {x : Int} (h : W.heap[H]? = some (.cells #[.int .u8 x] t (0, 0))) : ∀ j u, ([x].flatMap encB)[j]? = some u → W.cell? ((⟨H, 0, none⟩ : Addr).add j) = some u := by
  intro j u hu
  have hb : Blk W H t #[.int .u8 x] := h
  rw [add0]
  match j, hu with
  | 0, hu => simp [encB] at hu; subst hu; exact hb.cell 0
  | j + 1, hu => simp [encB] at hu
set_option maxRecDepth 100000 in
set_option maxHeartbeats 8000000 in
theorem number_calls (g : Nat) (v0 : Value) (xs : List Int) (n : Int) (s : Nat) (w : World) (h : IsW w g v0 xs) (hl : xs.length ≤ 140737488300000) (hs : s ≤ 4) (n0 : 0 ≤ n) (n1 : n ≤ 4294967295) :
    Calls Try.prog 56 #[.pointer (some ⟨g, 0, none⟩), .int .u32 n, .int .i64 s] w (Puts w g v0 (.tuple #[]) (xs ++ bes n s 0)) := by
  obtain ⟨i0, hi, hz0, hz1, hz2⟩ := info_parts info5
  have H0 := Lib.hid (show From_ w w g v0 v0 (xs ++ bes n s s) by simpa [bes] using from_refl h)
  clear h
  go_enter Try.func56, Try.ntmps56
  go_wp2
  go_loopw [6] (fun i wr => ∃ (j : Nat) (v : Value), j ≤ s ∧ i = .int .i64 ((j : Int) - 1) ∧ Hid (From_ w wr g v0 v (xs ++ bes n s j))) (fun i _ => (intOf i + 1).toNat)
  case atStart => exact ⟨s, v0, by omega, rfl, H0⟩
  case round =>
    obtain ⟨j, v, hj, rfl, hF⟩ := hrel
    clear H0
    by_cases hj0 : j = 0
    · subst hj0
      go_wp2
      go_end0
      exact ⟨rfl, v, hF.out⟩
    · obtain ⟨m, rfl⟩ : ∃ m, j = m + 1 := ⟨j - 1, by omega⟩
      obtain ⟨A, ln, cap, rfl⟩ := hF.out.isW.row.some_slice
      have c0 : wr.cell? ⟨g, 0, none⟩ = some (.slice A ln cap) := hF.out.isW.box.cell 0
      have hlen : (xs ++ bes n s (m + 1)).length ≤ 140737488300100 := by rw [List.length_append, bes_len]; omega
      have HLEN := Lib.hid hlen
      clear hlen
      have hm : m = 0 ∨ m = 1 ∨ m = 2 ∨ m = 3 := by omega
      have w24 : IntKind.i64.wrap 24 = 24 := by kernel_rfl
      have w16 : IntKind.i64.wrap 16 = 16 := by kernel_rfl
      have w8 : IntKind.i64.wrap 8 = 8 := by kernel_rfl
      have w0 : IntKind.i64.wrap 0 = 0 := by kernel_rfl
      have hg := hF.out.isW.box.lt
      rcases hm with rfl | rfl | rfl | rfl
      · go_wp2
        go_region_law ((refine step_append_row (by rfl) _ _ _ (by rfl) i0 _ 1 Try.underlying43 hi hz0 hz1 hz2 (by decide) (by decide) encB_len encB_one (.slice A ln cap) _ (by rfl) (by first | exact row_drew (row_alloc hF.out.isW.row _) | exact row_alloc (row_drew hF.out.isW.row) _) _ 1 _ [_] rfl (by rfl) (src_byte (heap_alloc_new _ _)) (by have := HLEN.out; unfold maxLen; omega) (by have := HLEN.out; omega) ?_; intro v' w' hr ha; obtain ⟨A', n', cap', rfl⟩ := hr.some_slice; have X : Blk w' g 47 #[.slice A ln cap] := (ha.block g (by simp; omega) hF.out.isW.apart).trans (by first | exact Blk.alloc hF.out.isW.box _ | exact Blk.drew (Blk.alloc hF.out.isW.box _)); have x3 : w'.cell? ⟨g, 0, none⟩ = some (.slice A ln cap) := X.cell 0; have xf := X.frozen; have HA := Lib.hid ha; have HR := Lib.hid hr; clear X ha hr))
        all_goals
          go_wp2
          go_roundw
          case rel => exact ⟨0, _, by omega, (by first | rfl | go_num | simp), Lib.hid (from_trans hF.out (by
            rw [bes_step n s 0 (by omega), ← List.append_assoc]
            refine from_append hF.out.isW (by first | exact (below_drew (Below.refl _ wr)).alloc (Nat.le_refl _) _ | exact below_drew ((Below.refl _ wr).alloc (Nat.le_refl _) _)) ?_ HA.out
            have e := HR.out
            simp only [IntKind.wrap_u8] at e
            simpa [dig] using e))⟩
          case measure => simp [intOf]
      · go_wp2
        go_region_law ((refine step_append_row (by rfl) _ _ _ (by rfl) i0 _ 1 Try.underlying43 hi hz0 hz1 hz2 (by decide) (by decide) encB_len encB_one (.slice A ln cap) _ (by rfl) (by first | exact row_drew (row_alloc hF.out.isW.row _) | exact row_alloc (row_drew hF.out.isW.row) _) _ 1 _ [_] rfl (by rfl) (src_byte (heap_alloc_new _ _)) (by have := HLEN.out; unfold maxLen; omega) (by have := HLEN.out; omega) ?_; intro v' w' hr ha; obtain ⟨A', n', cap', rfl⟩ := hr.some_slice; have X : Blk w' g 47 #[.slice A ln cap] := (ha.block g (by simp; omega) hF.out.isW.apart).trans (by first | exact Blk.alloc hF.out.isW.box _ | exact Blk.drew (Blk.alloc hF.out.isW.box _)); have x3 : w'.cell? ⟨g, 0, none⟩ = some (.slice A ln cap) := X.cell 0; have xf := X.frozen; have HA := Lib.hid ha; have HR := Lib.hid hr; clear X ha hr))
        all_goals
          go_wp2
          go_roundw
          case rel => exact ⟨1, _, by omega, (by first | rfl | go_num | simp), Lib.hid (from_trans hF.out (by
            rw [bes_step n s 1 (by omega), ← List.append_assoc]
            refine from_append hF.out.isW (by first | exact (below_drew (Below.refl _ wr)).alloc (Nat.le_refl _) _ | exact below_drew ((Below.refl _ wr).alloc (Nat.le_refl _) _)) ?_ HA.out
            have e := HR.out
            simp only [IntKind.wrap_u8] at e
            simpa [dig] using e))⟩
          case measure => simp [intOf]
      · go_wp2
        go_region_law ((refine step_append_row (by rfl) _ _ _ (by rfl) i0 _ 1 Try.underlying43 hi hz0 hz1 hz2 (by decide) (by decide) encB_len encB_one (.slice A ln cap) _ (by rfl) (by first | exact row_drew (row_alloc hF.out.isW.row _) | exact row_alloc (row_drew hF.out.isW.row) _) _ 1 _ [_] rfl (by rfl) (src_byte (heap_alloc_new _ _)) (by have := HLEN.out; unfold maxLen; omega) (by have := HLEN.out; omega) ?_; intro v' w' hr ha; obtain ⟨A', n', cap', rfl⟩ := hr.some_slice; have X : Blk w' g 47 #[.slice A ln cap] := (ha.block g (by simp; omega) hF.out.isW.apart).trans (by first | exact Blk.alloc hF.out.isW.box _ | exact Blk.drew (Blk.alloc hF.out.isW.box _)); have x3 : w'.cell? ⟨g, 0, none⟩ = some (.slice A ln cap) := X.cell 0; have xf := X.frozen; have HA := Lib.hid ha; have HR := Lib.hid hr; clear X ha hr))
        all_goals
          go_wp2
          go_roundw
          case rel => exact ⟨2, _, by omega, (by first | rfl | go_num | simp), Lib.hid (from_trans hF.out (by
            rw [bes_step n s 2 (by omega), ← List.append_assoc]
            refine from_append hF.out.isW (by first | exact (below_drew (Below.refl _ wr)).alloc (Nat.le_refl _) _ | exact below_drew ((Below.refl _ wr).alloc (Nat.le_refl _) _)) ?_ HA.out
            have e := HR.out
            simp only [IntKind.wrap_u8] at e
            simpa [dig] using e))⟩
          case measure => simp [intOf]
      · go_wp2
        go_region_law ((refine step_append_row (by rfl) _ _ _ (by rfl) i0 _ 1 Try.underlying43 hi hz0 hz1 hz2 (by decide) (by decide) encB_len encB_one (.slice A ln cap) _ (by rfl) (by first | exact row_drew (row_alloc hF.out.isW.row _) | exact row_alloc (row_drew hF.out.isW.row) _) _ 1 _ [_] rfl (by rfl) (src_byte (heap_alloc_new _ _)) (by have := HLEN.out; unfold maxLen; omega) (by have := HLEN.out; omega) ?_; intro v' w' hr ha; obtain ⟨A', n', cap', rfl⟩ := hr.some_slice; have X : Blk w' g 47 #[.slice A ln cap] := (ha.block g (by simp; omega) hF.out.isW.apart).trans (by first | exact Blk.alloc hF.out.isW.box _ | exact Blk.drew (Blk.alloc hF.out.isW.box _)); have x3 : w'.cell? ⟨g, 0, none⟩ = some (.slice A ln cap) := X.cell 0; have xf := X.frozen; have HA := Lib.hid ha; have HR := Lib.hid hr; clear X ha hr))
        all_goals
          go_wp2
          go_roundw
          case rel => exact ⟨3, _, by omega, (by first | rfl | go_num | simp), Lib.hid (from_trans hF.out (by
            rw [bes_step n s 3 (by omega), ← List.append_assoc]
            refine from_append hF.out.isW (by first | exact (below_drew (Below.refl _ wr)).alloc (Nat.le_refl _) _ | exact below_drew ((Below.refl _ wr).alloc (Nat.le_refl _) _)) ?_ HA.out
            have e := HR.out
            simp only [IntKind.wrap_u8] at e
            simpa [dig] using e))⟩
          case measure => simp [intOf]
theorem puts_nil (w : World) : True := trivial
def Nothing (w : World) (e : Ending) (w' : World) : Prop := e = .returned (.tuple #[]) ∧ w = w'
def Same (w : World) (v : Value) (e : Ending) (w' : World) : Prop := e = .returned v ∧ w = w'
theorem one_none (b : Int) (w : World) : Calls Try.prog 35 #[.pointer none, .int .u8 b] w (Same w (.tuple #[])) := by
  go_enter Try.func35, Try.ntmps35
  go_wp2
  go_end0
  exact ⟨rfl, rfl⟩
theorem two_none (b : Int) (w : World) : Calls Try.prog 37 #[.pointer none, .int .u16 b] w (Same w (.tuple #[])) := by
  go_enter Try.func37, Try.ntmps37
  go_wp2
  go_end0
  exact ⟨rfl, rfl⟩
theorem four_none (b : Int) (w : World) : Calls Try.prog 38 #[.pointer none, .int .u32 b] w (Same w (.tuple #[])) := by
  go_enter Try.func38, Try.ntmps38
  go_wp2
  go_end0
  exact ⟨rfl, rfl⟩
theorem all_none (v : Value) (w : World) : Calls Try.prog 39 #[.pointer none, v] w (Same w (.tuple #[])) := by
  go_enter Try.func39, Try.ntmps39
  go_wp2
  go_end0
  exact ⟨rfl, rfl⟩
theorem one_calls (g : Nat) (v0 : Value) (xs : List Int) (n : Int) (w : World) (h : IsW w g v0 xs) (hl : xs.length ≤ 140737488300000) (n0 : 0 ≤ n) (n1 : n ≤ 255) :
    Calls Try.prog 35 #[.pointer (some ⟨g, 0, none⟩), .int .u8 n] w (Puts w g v0 (.tuple #[]) (xs ++ bes n 1 0)) := by
  have K := Lib.hid (number_calls g v0 xs n 1 w h hl (by omega) n0 (by omega))
  go_enter Try.func35, Try.ntmps35
  go_wp2_with fail
  refine K.out.mono ?_
  intro e w1 d
  have D := Lib.hid d
  obtain ⟨rfl, d⟩ := d
  clear d
  go_wp2
  go_end0
  exact D.out
theorem two_calls (g : Nat) (v0 : Value) (xs : List Int) (n : Int) (w : World) (h : IsW w g v0 xs) (hl : xs.length ≤ 140737488300000) (n0 : 0 ≤ n) (n1 : n ≤ 65535) :
    Calls Try.prog 37 #[.pointer (some ⟨g, 0, none⟩), .int .u16 n] w (Puts w g v0 (.tuple #[]) (xs ++ bes n 2 0)) := by
  have K := Lib.hid (number_calls g v0 xs n 2 w h hl (by omega) n0 (by omega))
  go_enter Try.func37, Try.ntmps37
  go_wp2_with fail
  refine K.out.mono ?_
  intro e w1 d
  have D := Lib.hid d
  obtain ⟨rfl, d⟩ := d
  clear d
  go_wp2
  go_end0
  exact D.out
theorem four_calls (g : Nat) (v0 : Value) (xs : List Int) (n : Int) (w : World) (h : IsW w g v0 xs) (hl : xs.length ≤ 140737488300000) (n0 : 0 ≤ n) (n1 : n ≤ 4294967295) :
    Calls Try.prog 38 #[.pointer (some ⟨g, 0, none⟩), .int .u32 n] w (Puts w g v0 (.tuple #[]) (xs ++ bes n 4 0)) := by
  have K := Lib.hid (number_calls g v0 xs n 4 w h hl (by omega) n0 (by omega))
  go_enter Try.func38, Try.ntmps38
  go_wp2_with fail
  refine K.out.mono ?_
  intro e w1 d
  have D := Lib.hid d
  obtain ⟨rfl, d⟩ := d
  clear d
  go_wp2
  go_end0
  exact D.out
theorem hlen_none (w : World) : Calls Try.prog 57 #[.pointer none] w (Same w (.int .i64 0)) := by
  go_enter Try.func57, Try.ntmps57
  go_wp2
  go_ret
  exact ⟨rfl, rfl⟩
theorem hlen_calls (g : Nat) (v : Value) (xs : List Int) (w : World) (h : IsW w g v xs) (hl : xs.length ≤ 140737488355328) : Calls Try.prog 57 #[.pointer (some ⟨g, 0, none⟩)] w (Same w (.int .i64 xs.length)) := by
  obtain ⟨A, cap, rfl, _⟩ := h.row.slice
  have c0 : w.cell? ⟨g, 0, none⟩ = some (.slice A xs.length cap) := h.box.cell 0
  go_enter Try.func57, Try.ntmps57
  go_wp2
  go_ret
  exact ⟨rfl, rfl⟩
theorem len_none (w : World) : Calls Try.prog 40 #[.pointer none] w (Same w (.int .i64 0)) := by
  go_enter Try.func40, Try.ntmps40
  go_wp2
  go_ret
  exact ⟨rfl, rfl⟩
theorem len_calls (g : Nat) (v : Value) (xs : List Int) (w : World) (h : IsW w g v xs) (hl : xs.length ≤ 140737488355328) : Calls Try.prog 40 #[.pointer (some ⟨g, 0, none⟩)] w (Same w (.int .i64 xs.length)) := by
  have K := Lib.hid (hlen_calls g v xs w h hl)
  go_enter Try.func40, Try.ntmps40
  go_wp2_with fail
  refine K.out.mono ?_
  rintro e w1 ⟨rfl, rfl⟩
  go_wp2
  go_ret
  exact ⟨rfl, rfl⟩
/-- A list of bytes of the call's own, new. -/
def Fresh (w : World) (xs : List Int) (e : Ending) (w' : World) : Prop := ∃ v, e = .returned v ∧ RowOf 5 1 encB w' v xs ∧ Below w.heap.size w w' ∧ (∀ k, v.ownBlock = some k → w.heap.size ≤ k)
theorem bytes_none (w : World) : Calls Try.prog 42 #[.pointer none] w (Fresh w []) := by
  have K := Lib.hid len_none
  go_enter Try.func42, Try.ntmps42
  go_wp2_with (refine (K.out _).mono ?_; rintro e w1 ⟨rfl, rfl⟩)
  go_ret
  exact ⟨_, rfl, .inl ⟨rfl, rfl⟩, Below.refl _ _, by simp [Value.ownBlock]⟩
theorem bytes_empty (g : Nat) (v : Value) (w : World) (h : IsW w g v []) : Calls Try.prog 42 #[.pointer (some ⟨g, 0, none⟩)] w (Fresh w []) := by
  have K := Lib.hid (len_calls g v [] w h (by simp))
  go_enter Try.func42, Try.ntmps42
  go_wp2_with (refine K.out.mono ?_; rintro e w1 ⟨rfl, rfl⟩)
  go_ret
  exact ⟨_, rfl, .inl ⟨rfl, rfl⟩, Below.refl _ _, by simp [Value.ownBlock]⟩
theorem row_new (w : World) : RowOf 5 1 encB (w.alloc (.cells #[] 5)) (.slice (some ⟨w.heap.size, 0, none⟩) 0 0) ([] : List Int) :=
  .inr ⟨w.heap.size, 0, #[], rfl, Nat.le_refl _, by omega, Blk.new w 5 #[], by simp, by simp⟩
set_option maxHeartbeats 4000000 in
theorem bytes_calls (g : Nat) (v : Value) (xs : List Int) (w : World) (h : IsW w g v xs) (hx : xs ≠ []) (hl : xs.length ≤ 140737488355328) : Calls Try.prog 42 #[.pointer (some ⟨g, 0, none⟩)] w (Fresh w xs) := by
  obtain ⟨i0, hi, hz0, hz1, hz2⟩ := info_parts info5
  have K := Lib.hid (len_calls g v xs w h hl)
  have hpos : 0 < xs.length := List.length_pos_iff.2 hx
  have hpi : ((xs.length : Int) == 0) = false := by simp; omega
  have H := Lib.hid h
  obtain ⟨h0, h1⟩ | ⟨b, cap, cur, rfl, r1, r2, r3, r4, r5⟩ := h.row
  · exact absurd h1 hx
  have c0 : w.cell? ⟨g, 0, none⟩ = some (.slice (some ⟨b, 0, none⟩) xs.length cap) := h.box.cell 0
  have c1 : (w.alloc (.cells #[] 5)).cell? ⟨g, 0, none⟩ = some (.slice (some ⟨b, 0, none⟩) xs.length cap) := (h.box.alloc _).cell 0
  clear h r1 r2 r3 r4 r5 hx
  go_enter Try.func42, Try.ntmps42
  go_wp2_with (first
    | (at_builtin
       refine wpList_append_row (by rfl) _ _ 43 (by rfl) i0 _ 1 Try.underlying43 hi hz0 hz1 hz2 (by decide) (by decide) encB_len encB_one (.slice (some ⟨w.heap.size, 0, none⟩) 0 0) ([] : List Int) (by rfl) (row_new w) ⟨b, 0, none⟩ xs.length cap xs rfl (by rfl) ?c1 ?c2 ?c3 ?c4)
    | (refine K.out.mono ?_; rintro e w1 ⟨rfl, rfl⟩))
  case c1 =>
    intro j u hu
    rw [add0]
    exact (World.cell?_alloc_lt w _ _ (World.block_lt_of_cell? w _ (H.out.row.cell encB_len j u hu))).trans (H.out.row.cell encB_len j u hu)
  case c2 => simp; unfold maxLen; omega
  case c3 => simp; omega
  case c4 =>
    intro v' w' hr ha
    have HR := Lib.hid hr
    have HA := Lib.hid ha
    clear hr ha
    go_wp2
    go_ret
    refine ⟨v', rfl, by simpa using HR.out, ⟨HA.out.os, HA.out.tape, HA.out.output, ?_, fun k hk => ?_⟩, fun k hk => ?_⟩
    · have := HA.out.size
      simp at this
      omega
    · exact (HA.out.block k (by simp; omega) (by simp [Value.ownBlock]; omega)).trans (Below.heap_alloc w _ k hk)
    · rcases HA.out.own k hk with h1 | h1
      · have : w.heap.size = k := by simpa [Value.ownBlock] using h1
        omega
      · simp at h1
        omega
end Go.Proofs.Ytfbjmaajdblbfaa.Oct
