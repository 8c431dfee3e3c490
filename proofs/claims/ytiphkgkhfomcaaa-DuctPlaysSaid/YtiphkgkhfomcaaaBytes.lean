/- Bytes: held against each other (Same, 31), cloned (slices.Clone, 63). -/
import Derived.Test.YtiphkgkhfomcaaaProg
import Derived.Test.YtiphkgkhfomcaaaAid
import Derived.Test.YtiphkgkhfomcaaaRowLaw
import Derived.Test.YtiphkgkhfomcaaaRegrown
import Derived.WalkKit
import Derived.WalkSpells
import Derived.WalkLawsBesides
import Derived.RegionTactic
import Derived.ChangeAlike
import Derived.Deep.QuietTactic
import Derived.BigQuiet
import Derived.BigRegion
import Derived.Deep.RegionHeld3
import Derived.Deep.RegionWith
import Derived.Deep.DrawnRows
import Derived.OpenShut
import Derived.Laws.Cover3
set_option linter.unusedSimpArgs false
set_option linter.unusedVariables false
attribute [local go_sem ↓] Go.wp_at_zero Go.wp_at_succ
namespace Go.Proofs.Ytiphkgkhfomcaaa.Byt
open Go.BigFrame Go.RowKit Go.OpenShut Go.Proofs.Ytiphkgkhfomcaaa.Aid
def encB (x : Int) : List Value := [.int .u8 x]
theorem encB_len (x : Int) : (encB x).length = 1 := rfl
theorem encB_one (x : Int) : ∀ u ∈ encB x, u.oneCell' = true := by intro u hu; simp [encB] at hu; subst hu; rfl
theorem info5 : (Try.prog.info? 5).map (fun i => (i.zero, i.size, i.bytes)) = some (some (.int .u8 0), 1, 1) := by kernel_rfl
def Gives (w : World) (v : Value) (e : Ending) (w' : World) : Prop := e = .returned v ∧ Below w.heap.size w w'
theorem below_drewN' {B : Nat} {w0 w : World} (h : Below B w0 w) (n : Nat) : Below B w0 (w.drewN n) := h.trans ⟨rfl, rfl, rfl, Nat.le_refl _, fun _ _ => rfl⟩
set_option maxRecDepth 100000 in
set_option maxHeartbeats 4000000 in
theorem same_calls (A B : Option Addr) (c d : Nat) (xs : List Int) (w : World) (hA : Reps w A 1 encB xs) (hB : Reps w B 1 encB xs) (hl : xs.length ≤ 9223372036854775807) : Calls Try.prog 31 #[.slice A xs.length c, .slice B xs.length d] w (Gives w (.bool true)) := by
  have RA := Lib.hid hA
  have RB := Lib.hid hB
  clear hA hB
  go_enter Try.func31, Try.ntmps31
  go_wp2
  go_loopw [5] (fun i wr => ∃ k : Nat, k ≤ xs.length ∧ i = .int .i64 k ∧ Hid (Below w.heap.size w wr)) (fun i _ => xs.length - (intOf i).toNat)
  case atStart => exact ⟨0, by omega, rfl, Lib.hid (Below.refl _ _)⟩
  case round =>
    obtain ⟨k, hk, rfl, hW⟩ := hrel
    by_cases hlt : k < xs.length
    · obtain ⟨x, hx⟩ : ∃ x, xs[k]? = some x := ⟨_, List.getElem?_eq_getElem hlt⟩
      obtain ⟨ad, rfl, had, hc⟩ := (RA.out.below hW.out) k x hx
      obtain ⟨bd, rfl, hbd, hc'⟩ := (RB.out.below hW.out) k x hx
      have c0 : wr.cell? (ad.add k) = some (.int .u8 x) := by have := hc 0 _ rfl; simpa using this
      have c1 : wr.cell? (bd.add k) = some (.int .u8 x) := by have := hc' 0 _ rfl; simpa using this
      have q0 : (0 : Int) ≤ (k : Int) := by omega
      have q1 : (k : Int) < (xs.length : Int) := by omega
      clear hc hc' hx
      go_wp2
      go_quiet (fail)
      go_wp2
      go_roundw
      case rel => exact ⟨k + 1, by omega, by go_num, Lib.hid (below_drewN' hW.out _)⟩
      case measure => simp [intOf]; omega
    · obtain rfl : k = xs.length := by omega
      go_wp2
      go_ret
      exact ⟨rfl, hW.out⟩
theorem same_n (A B : Option Addr) (c d n m : Nat) (xs : List Int) (w : World) (hA : Reps w A 1 encB xs) (hB : Reps w B 1 encB xs) (hn : xs.length = n) (hm : xs.length = m) (hl : n ≤ 9223372036854775807) : Calls Try.prog 31 #[.slice A n c, .slice B m d] w (Gives w (.bool true)) := by
  subst hn hm
  exact same_calls A B c d xs w hA hB hl
theorem eql_nil (a : Option Addr) (l c : Nat) (w : World) : (binOp .eql 61 (.slice a l c) (.slice Option.none 0 0)).run Try.prog w = .ok (.bool a.isNone) w := by
  simp only [binOp]
  simp [run_equal_slice_nil w 61 5 a l c Try.underlying61]
attribute [local go_sem high] eql_nil
theorem row_new (w : World) : RowOf 5 1 encB (w.alloc (.cells #[] 5)) (.slice (some ⟨w.heap.size, 0, Option.none⟩) 0 0) ([] : List Int) :=
  .inr ⟨w.heap.size, 0, #[], rfl, Nat.le_refl _, by omega, heap_alloc_new w _, by simp, rfl⟩
/-- Bytes of the call's own. -/
def Fresh (w : World) (xs : List Int) (e : Ending) (w' : World) : Prop := ∃ v, e = .returned v ∧ RowOf 5 1 encB w' v xs ∧ Below w.heap.size w w' ∧ ∀ k, v.ownBlock = some k → w.heap.size ≤ k
/-- Bytes as they come: a slice of whatever make. -/
structure Src (w : World) (v : Value) (xs : List Int) : Prop where
  is : ∃ A c, v = .slice A xs.length c ∧ Reps w A 1 encB xs ∧ (A = Option.none → c = 0 ∧ xs = [])
theorem Src.below {w w' : World} {v : Value} {xs : List Int} (h : Src w v xs) (hb : Below w.heap.size w w') : Src w' v xs := by
  obtain ⟨A, c, h1, h2, h3⟩ := h.is
  exact ⟨A, c, h1, h2.below hb, h3⟩
theorem src_row {w : World} {v : Value} {xs : List Int} (h : RowOf 5 1 encB w v xs) : Src w v xs := by
  obtain ⟨A, c, h1, h2, h3⟩ := h.reps encB_len
  refine ⟨A, c, h1, h3, fun hA => ?_⟩
  obtain ⟨h0, hx⟩ | ⟨b, cap, cur, h0, _⟩ := h
  · rw [h1] at h0
    injection h0 with _ _ h5
    exact ⟨h5, hx⟩
  · rw [h1, hA] at h0
    injection h0 with h4
    cases h4
set_option maxRecDepth 100000 in
set_option maxHeartbeats 4000000 in
theorem bclone_calls (v : Value) (xs : List Int) (w : World) (h : Src w v xs) (hl : xs.length ≤ 1000000) : Calls Try.prog 63 #[v] w (Fresh w xs) := by
  obtain ⟨A, cap, rfl, hR, hA⟩ := h.is
  clear h
  cases A with
  | none =>
    obtain ⟨rfl, rfl⟩ := hA rfl
    clear hR hA
    go_enter Try.func63, Try.ntmps63
    go_wp2
    go_ret
    exact ⟨_, rfl, .inl ⟨rfl, rfl⟩, Below.refl _ _, fun k hk => by simp [Value.ownBlock] at hk⟩
  | some ad =>
    obtain ⟨i0, hi, hz0, hz1, hz2⟩ := info_parts info5
    have R := Lib.hid hR
    obtain ⟨N, hN⟩ : ∃ N, xs.length = N := ⟨_, rfl⟩
    have HN := Lib.hid hN
    rw [hN] at hl ⊢
    clear hA hR hN
    go_enter Try.func63, Try.ntmps63
    go_wp2_with (at_builtin; refine wpList_append_any (by rfl) _ _ 61 (by rfl) i0 _ 1 Try.underlying61 hi hz0 hz1 hz2 (by decide) (by decide) encB_len encB_one (.slice (some ⟨w.heap.size, 0, Option.none⟩) 0 0) ([] : List Int) (by rfl) (row_new w) _ N cap xs HN.out (by rfl) (fun h => by cases h) (R.out.below ((Below.refl _ w).alloc (Nat.le_refl _) _)) ?k2 ?k3 ?k4)
    case k2 => simp only [List.length_nil]; unfold maxLen; omega
    case k3 => simp only [List.length_nil]; omega
    case k4 =>
      intro v2 w2 hr ha
      have HR := Lib.hid hr
      have HA := Lib.hid ha
      clear hr ha
      go_wp2
      go_ret
      refine ⟨v2, rfl, HR.out, below_app ((Below.refl _ w).alloc (Nat.le_refl _) _) HA.out (fun k hk => by
        have : w.heap.size = k := by simpa [Value.ownBlock] using hk
        omega), fun k hk => ?_⟩
      rcases HA.out.own k hk with h1 | h1
      · have : w.heap.size = k := by simpa [Value.ownBlock] using h1
        omega
      · simp at h1
        omega
end Go.Proofs.Ytiphkgkhfomcaaa.Byt
