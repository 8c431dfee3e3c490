/- OctetReads: whatever is read of any bytes, step by step it tells what the document says. -/
import Derived.Test.YtfbjmaajdblbfaaOctTakes
set_option linter.unusedSimpArgs false
set_option linter.unusedVariables false
attribute [local go_sem ↓] Go.wp_at_zero Go.wp_at_succ
namespace Go.Proofs.Ytfbjmaajdblbfaa.Oct
open Go.RowKit Go.BigFrame Go.OpenShut Go.Proofs.Ytfbjmaajdblbfaa.Aid
/-- An item, as it lies in memory. -/
structure Item where
  kind : Int
  n : Int
  v : Value
instance : Inhabited Item := ⟨⟨0, 0, .slice none 0 0⟩⟩
def WfItem (x : Item) : Prop := 0 ≤ x.kind ∧ x.kind ≤ 255
def encI (x : Item) : List Value := [.int .u8 x.kind, .int .i64 x.n, x.v]
theorem item_cells {w : World} {B : Option Addr} {ys : List Item} (h : Reps w B 3 encI ys) (k : Nat) (y : Item) (hy : ys[k]? = some y) :
    ∃ bd, B = some bd ∧ w.cell? (bd.add (k * 3)) = some (.int .u8 y.kind) ∧ w.cell? ⟨(bd.add (k * 3)).block, (bd.add (k * 3)).off + 1, none⟩ = some (.int .i64 y.n) ∧ w.cell? ⟨(bd.add (k * 3)).block, (bd.add (k * 3)).off + 2, none⟩ = some y.v := by
  obtain ⟨bd, rfl, _, hc⟩ := h k y hy
  refine ⟨bd, rfl, hc 0 _ rfl, ?_, ?_⟩
  · have := hc 1 _ rfl
    rw [← Go.Addr.add_add] at this
    simpa [Addr.add] using this
  · have := hc 2 _ rfl
    rw [← Go.Addr.add_add] at this
    simpa [Addr.add] using this
set_option maxRecDepth 100000 in
set_option maxHeartbeats 8000000 in
theorem reads_walk (A : Option Addr) (c : Nat) (xs : List Int) (B : Option Addr) (d : Nat) (ys : List Item) (w : World) (hA : A = none → c = 0) (hR : Reps w A 1 encB xs) (hc : xs.length ≤ c) (hl : xs.length ≤ 140737488355328) (hb : ∀ x ∈ xs, 0 ≤ x ∧ x ≤ 255) (hI : Reps w B 3 encI ys) (hk : ∀ y ∈ ys, WfItem y) (hm : ys.length ≤ 9223372036854775807) :
    Calls Try.prog 10 #[.slice A xs.length c, .slice B ys.length d] w (Yes w) := by
  have L0 : Hid (IsL w A c 0 xs) := Lib.hid ⟨hR, by omega⟩
  have R := Lib.hid hR
  have I := Lib.hid hI
  have HA := Lib.hid hA
  have HB := Lib.hid hb
  have HK := Lib.hid hk
  clear hA hR hb hI hk
  go_enter Try.func10, Try.ntmps10
  go_wp2_with fail
  refine (known_calls _).mono ?_
  rintro e w1 ⟨rfl, b1⟩
  have B1 := Lib.hid b1
  clear b1
  go_wp2_with fail
  refine (newr_calls A c xs w1 HA.out (R.out.below B1.out) hl).mono ?_
  rintro e w2 ⟨g, b, cap, rfl, hI, b2, hg, hbb⟩
  have R2 : Hid (Rd w w2 g b cap 0 xs) := Lib.hid ⟨hI, Nat.le_trans B1.out.size hg, below_then B1.out B1.out.size b2⟩
  clear hI b2 hg hbb B1
  go_wp2
  go_loopw [6, 7] (fun l i wr => ∃ (k at2 : Nat) (A2 : Option Addr) (c2 : Nat), k ≤ 200 ∧ i = .int .i64 k ∧ l = .slice A2 (xs.length - at2) c2 ∧ Hid (IsL w A2 c2 at2 xs) ∧ Hid (Rd w wr g b cap at2 xs)) (fun _ i _ => 200 - (intOf i).toNat)
  case atStart => exact ⟨0, 0, A, c, by omega, rfl, rfl, L0, R2⟩
  case round =>
    obtain ⟨k, at2, A2, c2, hk, rfl, rfl, hL, hRd⟩ := hrel
    clear R2
    have fin : ∀ (hq : Code.wp Try.prog Code.ret (fun _ _ _ => True) ⟨#[], []⟩ wr), True := fun _ => trivial
    clear fin
    by_cases hlt : k < ys.length
    · by_cases h2 : k < 200
      · obtain ⟨y, hy⟩ : ∃ y, ys[k]? = some y := ⟨_, List.getElem?_eq_getElem hlt⟩
        obtain ⟨bd, rfl, x0, x1, x2⟩ := item_cells (I.out.below hRd.out.bel) k y hy
        have KB := HK.out y (List.mem_of_getElem? hy)
        obtain ⟨kb0, kb1⟩ := KB
        have q0 : (0 : Int) ≤ (k : Int) := by omega
        have q1 : (k : Int) < (ys.length : Int) := by omega
        have q2 : (k : Int) < 200 := by omega
        clear hy
        go_wp2_with fail
        refine (reads_calls w wr g b cap at2 c2 A2 xs y.kind y.n y.v hRd.out hL.out HB.out kb0 kb1).mono ?_
        rintro e w3 ⟨at3, A3, c3, rfl, hL3, hR3⟩
        have L3 := Lib.hid hL3
        have R3 := Lib.hid hR3
        clear hL hRd hL3 hR3 x0 x1 x2
        go_wp2_with fail
        refine (left_calls g b cap at3 xs w3 R3.out.isR).mono ?_
        rintro e w4 ⟨rfl, b4⟩
        have R4 := Lib.hid (R3.out.below b4)
        have hle : (xs.length : Int) - (at3 : Int) = ((xs.length - at3 : Nat) : Int) := by have := R3.out.isR.le; omega
        rw [hle]
        clear b4 hle R3
        go_wp2_with fail
        refine (rest_calls g b cap at3 xs w4 R4.out.isR).mono ?_
        rintro e w5 ⟨v5, rfl, hr5, b5, _⟩
        obtain ⟨A5, c5, rfl, _, hR5⟩ := row_source hr5
        have R5 := Lib.hid (R4.out.below b5)
        have S : Hid (Calls Try.prog 41 #[.slice A5 (xs.length - at3) c5, .slice A3 (xs.length - at3) c3] w5 (Gives w5 (.bool true))) := Lib.hid (by
          have := same_calls A5 A3 c5 c3 (xs.drop at3) w5 hR5 (L3.out.reps.below R5.out.bel) (by rw [List.length_drop]; omega)
          rwa [List.length_drop] at this)
        clear hr5 b5 hR5 R4
        rw [List.length_drop]
        go_wp2_with fail
        refine S.out.mono ?_
        rintro e w6 ⟨rfl, b6⟩
        have R6 := Lib.hid (R5.out.below b6)
        clear b6 R5 S
        go_wp2
        go_roundw
        case rel => exact ⟨k + 1, at3, A3, c3, by omega, by go_num, rfl, L3, R6⟩
        case measure => simp [intOf]; omega
      · have q2 : ¬ (k : Int) < 200 := by omega
        have q1 : (k : Int) < (ys.length : Int) := by omega
        go_wp2_with fail
        refine (known_calls _).mono ?_
        rintro e w8 ⟨rfl, b8⟩
        have B8 := Lib.hid (below_then hRd.out.bel hRd.out.bel.size b8)
        clear b8
        go_wp2
        go_ret
        exact ⟨rfl, B8.out⟩
    · have q1 : ¬ (k : Int) < (ys.length : Int) := by omega
      go_wp2_with fail
      refine (known_calls _).mono ?_
      rintro e w8 ⟨rfl, b8⟩
      have B8 := Lib.hid (below_then hRd.out.bel hRd.out.bel.size b8)
      clear b8
      go_wp2
      go_ret
      exact ⟨rfl, B8.out⟩
end Go.Proofs.Ytfbjmaajdblbfaa.Oct
