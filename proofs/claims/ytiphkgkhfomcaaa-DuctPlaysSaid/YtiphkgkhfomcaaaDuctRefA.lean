/- Chapter 25 (duct): the document's duct: its state, Len (56). -/
import Derived.Test.YtiphkgkhfomcaaaDuctNth
set_option linter.unusedSimpArgs false
set_option linter.unusedVariables false
attribute [local go_sem ↓] Go.wp_at_zero Go.wp_at_succ
namespace Go.Proofs.Ytiphkgkhfomcaaa.Duct
open Go.BigFrame Go.RowKit Go.OpenShut Go.Proofs.Ytiphkgkhfomcaaa.Aid Go.Proofs.Ytiphkgkhfomcaaa.DMap Go.Proofs.Ytiphkgkhfomcaaa.Byt
/-- A copy of the document's: what became of it, and its bytes as they lie. -/
structure Cp where
  f : Fate
  A : Option Addr
  n : Nat
  cp : Nat
deriving Inhabited
def Cp.v (c : Cp) : Value := .slice c.A c.n c.cp
def encP (c : Cp) : List Value := [.int .i64 c.f.of_, .int .i64 c.f.at_, .int .i64 c.f.en, .int .i64 c.f.kind, c.v]
theorem encP_len (c : Cp) : (encP c).length = 5 := rfl
theorem encP_one (c : Cp) : ∀ u ∈ encP c, u.oneCell' = true := by
  intro u hu
  simp [encP, Cp.v] at hu
  rcases hu with rfl | rfl | rfl | rfl | rfl <;> rfl
def up (c : Cp) : Bool := decide (c.f.kind = 0)
def lenP (cs : List Cp) : Nat := cs.countP up
/-- A copy, as it lies in memory. -/
theorem cp_cells {w : World} {A : Option Addr} {cs : List Cp} (h : Reps w A 5 encP cs) {k : Nat} {c : Cp} (hk : cs[k]? = some c) : ∃ ad, A = some ad ∧ ad.block < w.heap.size ∧ w.cell? (ad.add (k * 5)) = some (.int .i64 c.f.of_) ∧ w.cell? ⟨(ad.add (k * 5)).block, (ad.add (k * 5)).off + 1, Option.none⟩ = some (.int .i64 c.f.at_) ∧
    w.cell? ⟨(ad.add (k * 5)).block, (ad.add (k * 5)).off + 2, Option.none⟩ = some (.int .i64 c.f.en) ∧ w.cell? ⟨(ad.add (k * 5)).block, (ad.add (k * 5)).off + 3, Option.none⟩ = some (.int .i64 c.f.kind) ∧ w.cell? ⟨(ad.add (k * 5)).block, (ad.add (k * 5)).off + 4, Option.none⟩ = some c.v := by
  obtain ⟨ad, rfl, hl, hc⟩ := h k c hk
  exact ⟨ad, rfl, hl, hc 0 _ rfl, (add_next ad (k * 5) 1 (by omega)) ▸ hc 1 _ rfl, (add_next ad (k * 5) 2 (by omega)) ▸ hc 2 _ rfl, (add_next ad (k * 5) 3 (by omega)) ▸ hc 3 _ rfl, (add_next ad (k * 5) 4 (by omega)) ▸ hc 4 _ rfl⟩
theorem lenP_succ {cs : List Cp} {k : Nat} {c : Cp} (h : cs[k]? = some c) : lenP (cs.take (k + 1)) = lenP (cs.take k) + if c.f.kind = 0 then 1 else 0 := by
  rw [List.take_add_one, h]
  simp [lenP, List.countP_append, up]
theorem lenP_le (cs : List Cp) : lenP cs ≤ cs.length := List.countP_le_length
set_option maxRecDepth 100000 in
set_option maxHeartbeats 4000000 in
theorem rlen_calls (la : Int) (A : Option Addr) (cap : Nat) (cs : List Cp) (w : World) (hA : Reps w A 5 encP cs) (hl : cs.length ≤ 1000000) :
    Calls Try.prog 56 #[.agg #[.int .i64 la, .slice A cs.length cap]] w (Gives w (.int .i64 (lenP cs))) := by
  have RA := Lib.hid hA
  have X := Lib.hid (Blk.new w 76 #[.int .i64 la, .slice A cs.length cap])
  have hB := Lib.hid ((Below.refl w.heap.size w).alloc (Nat.le_refl _) (.cells #[.int .i64 la, .slice A cs.length cap] 76))
  clear hA
  go_enter Try.func56, Try.ntmps56
  go_wp2
  go_loopw [3, 4] (fun c i wr => ∃ k : Nat, k ≤ cs.length ∧ i = .int .i64 k ∧ c = .int .i64 (lenP (cs.take k)) ∧ Hid (wr = w.alloc (.cells #[.int .i64 la, .slice A cs.length cap] 76))) (fun _ i _ => cs.length - (intOf i).toNat)
  case atStart => exact ⟨0, by omega, rfl, by simp [lenP], Lib.hid rfl⟩
  case round =>
    obtain ⟨k, hk, rfl, rfl, hW⟩ := hrel
    obtain rfl := hW.out
    have c1 := X.out.cell 1
    simp at c1
    by_cases hlt : k < cs.length
    · obtain ⟨x, hx⟩ : ∃ x, cs[k]? = some x := ⟨_, List.getElem?_eq_getElem hlt⟩
      have hcc := cp_cells (RA.out.below ((Below.refl _ w).alloc (Nat.le_refl _) (.cells #[.int .i64 la, .slice A cs.length cap] 76))) hx
      have hs := lenP_succ hx
      have hle : lenP (cs.take k) ≤ k := Nat.le_trans (lenP_le (cs.take k)) (List.length_take_le _ _)
      have q0 : (0 : Int) ≤ (k : Int) := by omega
      have q1 : (k : Int) < (cs.length : Int) := by omega
      clear hx
      generalize lenP (cs.take k) = cn at *
      have HS := Lib.hid hs
      clear hs
      obtain ⟨ad, rfl, had, _, _, _, x3, _⟩ := hcc
      by_cases hz : x.f.kind = 0
      · rw [hz] at x3
        have e2 := Lib.hid (HS.out.trans (by rw [if_pos hz]))
        clear HS hz
        go_wp2
        go_roundw
        case rel => exact ⟨k + 1, by omega, by go_num, by rw [e2.out]; go_num, Lib.hid (by trivial)⟩
        case measure => simp [intOf]; omega
      · have e2 := Lib.hid (HS.out.trans (by rw [if_neg hz]))
        clear HS
        go_wp2
        go_roundw
        case rel => exact ⟨k + 1, by omega, by go_num, by rw [e2.out]; rfl, Lib.hid (by trivial)⟩
        case measure => simp [intOf]; omega
    · obtain rfl : k = cs.length := by omega
      go_wp2
      go_ret
      simp only [List.take_length]
      exact ⟨rfl, hB.out⟩
/-- Is a copy under way? -/
def isP (cs : List Cp) (id : Int) : Bool := decide (0 ≤ id) && decide (id < cs.length) && decide ((cs.getD id.toNat default).f.kind = 0)
set_option maxRecDepth 100000 in
set_option maxHeartbeats 4000000 in
theorem ris_calls (la id : Int) (A : Option Addr) (cap : Nat) (cs : List Cp) (w : World) (hA : Reps w A 5 encP cs) (hl : cs.length ≤ 1000000) :
    Calls Try.prog 67 #[.agg #[.int .i64 la, .slice A cs.length cap], .int .i64 id] w (Gives w (.bool (isP cs id))) := by
  have X := Lib.hid (Blk.new w 76 #[.int .i64 la, .slice A cs.length cap])
  have hB := Lib.hid ((Below.refl w.heap.size w).alloc (Nat.le_refl _) (.cells #[.int .i64 la, .slice A cs.length cap] 76))
  have c1 := X.out.cell 1
  simp at c1
  by_cases h0 : 0 ≤ id
  · by_cases h1 : id < cs.length
    · obtain ⟨k, rfl⟩ : ∃ k : Nat, id = k := ⟨id.toNat, by omega⟩
      have hk : k < cs.length := by omega
      obtain ⟨x, hx⟩ : ∃ x, cs[k]? = some x := ⟨_, List.getElem?_eq_getElem hk⟩
      have e : isP cs k = decide (x.f.kind = 0) := by
        have e' : cs.getD k default = x := by rw [List.getD_eq_getElem?_getD, hx]; rfl
        simp only [isP, Int.toNat_natCast, e']
        simp [hk]
      have hcc := cp_cells (hA.below ((Below.refl _ w).alloc (Nat.le_refl _) (.cells #[.int .i64 la, .slice A cs.length cap] 76))) hx
      clear hx hA X
      obtain ⟨ad, rfl, had, _, _, _, x3, _⟩ := hcc
      rw [e]
      by_cases hz : x.f.kind = 0
      · rw [hz] at x3
        rw [decide_eq_true hz]
        clear hz e
        go_enter Try.func67, Try.ntmps67
        go_wp2
        go_ret
        exact ⟨rfl, hB.out⟩
      · rw [decide_eq_false hz]
        clear e
        go_enter Try.func67, Try.ntmps67
        go_wp2
        go_ret
        exact ⟨by simp [hz], hB.out⟩
    · have e : isP cs id = false := by simp [isP, h1]
      rw [e]
      clear hA X e
      go_enter Try.func67, Try.ntmps67
      go_wp2
      go_ret
      exact ⟨rfl, hB.out⟩
  · have e : isP cs id = false := by simp [isP, h0]
    rw [e]
    clear hA X e
    go_enter Try.func67, Try.ntmps67
    go_wp2
    go_ret
    exact ⟨rfl, hB.out⟩
end Go.Proofs.Ytiphkgkhfomcaaa.Duct
