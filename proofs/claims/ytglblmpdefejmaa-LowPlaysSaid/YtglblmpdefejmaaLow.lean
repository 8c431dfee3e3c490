/- The walks of chapter 12's functions (low), each by what it computes. -/
import Derived.Test.YtglblmpdefejmaaProg
import Derived.Test.YtglblmpdefejmaaAid
import Derived.Test.YtglblmpdefejmaaLowPlain
import Derived.WalkKit
import Derived.WalkSpells
import Derived.WalkLawsBesides
import Derived.RegionTactic
import Derived.ChangeAlike
import Derived.Deep.QuietTactic
import Derived.BigQuiet
import Derived.Deep.RegionHeld3
import Derived.Deep.DrawnRows
import Derived.OpenShut
import Derived.StillTailTactics
import Derived.ArgAppend
import Derived.Deep.AppendLies
import Derived.Maps.AppendAt
namespace Go.Proofs.Ytglblmpdefejmaa.Low
open Go.RowKit Go.OpenShut Go.Proofs.Ytglblmpdefejmaa.Aid Go.Proofs.Ytglblmpdefejmaa.LowPlain
attribute [local go_sem] max_2 min_2 max2_i min2_i
def encM (m : LMark) : List Value := [.int .i64 m.at_, .int .i64 m.v]
/-- Block g is a Low. -/
structure IsLow (w : World) (g : Nat) (window last : Int) (A : Option Addr) (c : Nat) (l : List LMark) : Prop where
  blk : Blk w g 41 #[.int .i64 window, .int .i64 last, .slice A l.length c]
  reps : Reps w A 2 encM l
  ne : ∀ ad, A = some ad → ad.block ≠ g
  ty : ∀ ad, A = some ad → ∃ cs, Blk w ad.block 43 cs
  le : l.length ≤ c
  small : l.length ≤ 1000
/-- Values and times within their limits. -/
def Wf (l : List LMark) : Prop := ∀ x ∈ l, 0 ≤ x.at_ ∧ x.at_ ≤ 4611686018427387904 ∧ 0 ≤ x.v ∧ x.v ≤ 4611686018427387904
def goneN (window now : Int) (l : List LMark) : Nat := (l.takeWhile (fun x => !within window now x)).length
theorem gone_step (window now : Int) (l : List LMark) (k : Nat) (hk : k ≤ l.length) (h : ∀ x ∈ l.take k, within window now x = false) :
    (k = l.length → goneN window now l = k) ∧ ∀ x, l[k]? = some x → (within window now x = true → goneN window now l = k) ∧ (within window now x = false → ∀ y ∈ l.take (k + 1), within window now y = false) := by
  have e : l = l.take k ++ l.drop k := (List.take_append_drop k l).symm
  have hl : (l.take k).length = k := by rw [List.length_take]; omega
  have ht : ∀ m : List LMark, (l.take k ++ m).takeWhile (fun x => !within window now x) = l.take k ++ m.takeWhile (fun x => !within window now x) := by
    intro m
    rw [List.takeWhile_append_of_pos]
    intro x hx
    simp [h x hx]
  refine ⟨fun hk2 => ?_, fun x hx => ⟨fun hw => ?_, fun hw y hy => ?_⟩⟩
  · unfold goneN
    rw [e, ht, List.drop_eq_nil_of_le (by omega)]
    simp [hl]
  · unfold goneN
    have hd : l.drop k = x :: l.drop (k + 1) := by
      have hlt := (List.getElem?_eq_some_iff.1 hx).1
      rw [List.drop_eq_getElem_cons hlt]
      congr 1
      exact (List.getElem?_eq_some_iff.1 hx).2
    rw [e, ht, hd, List.takeWhile_cons, if_neg (by simp [hw])]
    simp [hl]
  · have hlt := (List.getElem?_eq_some_iff.1 hx).1
    rw [List.take_succ_eq_append_getElem hlt, List.mem_append] at hy
    rcases hy with hy | hy
    · exact h y hy
    · have : y = x := by rw [(List.getElem?_eq_some_iff.1 hx).2] at hy; simpa using hy
      rw [this]; exact hw
theorem cellAt {w : World} {A : Option Addr} {l : List LMark} (R : Reps w A 2 encM l) {k : Nat} {x : LMark} (hx : l[k]? = some x) :
    ∃ ad, A = some ad ∧ ad.block < w.heap.size ∧ w.cell? (ad.add (k * 2)) = some (.int .i64 x.at_) ∧ w.cell? ⟨(ad.add (k * 2)).block, (ad.add (k * 2)).off + 1, none⟩ = some (.int .i64 x.v) := by
  obtain ⟨ad, e, hl, hc⟩ := R k x hx
  exact ⟨ad, e, hl, hc 0 _ rfl, (add_next ad (k * 2) 1 (by omega)) ▸ hc 1 _ rfl⟩
set_option maxHeartbeats 1000000 in
theorem gone_calls (g : Nat) (window last now : Int) (A : Option Addr) (c : Nat) (l : List LMark) (w : World) (h : IsLow w g window last A c l) (hw : Wf l) (h0 : 1 ≤ window) (h1 : window ≤ 4611686018427387904) (n0 : 0 ≤ now) (n1 : now ≤ 4611686018427387904) :
    Calls Try.prog 15 #[.pointer (some ⟨g, 0, none⟩), .int .i64 now] w fun e w' => e = .returned (.int .i64 (goneN window now l)) ∧ ∃ n, w' = w.drewN n := by
  obtain ⟨hb, hr, hne, hty, hle, hsm⟩ := h
  have c0 : w.cell? ⟨g, 0, none⟩ = some (.int .i64 window) := hb.cell 0
  have c2 : w.cell? ⟨g, 2, none⟩ = some (.slice A l.length c) := hb.cell 2
  have R := Lib.hid hr
  have HW := Lib.hid hw
  clear hr hb hw hty
  obtain ⟨N, hN⟩ : ∃ N, N = goneN window now l := ⟨_, rfl⟩
  rw [← hN]
  have HN := Lib.hid hN
  clear hN
  go_enter Try.func15, Try.ntmps15
  go_wp2
  go_loopw [5] (fun i wr => ∃ k : Nat, k ≤ l.length ∧ i = .int .i64 k ∧ Hid (∀ x ∈ l.take k, within window now x = false) ∧ Hid (∃ n, wr = w.drewN n)) (fun i _ => l.length - (intOf i).toNat)
  case atStart => exact ⟨0, by omega, rfl, Lib.hid (by simp), Lib.hid ⟨0, rfl⟩⟩
  case round =>
    obtain ⟨k, hk, rfl, hg, hn⟩ := hrel
    obtain ⟨n, rfl⟩ := hn.out
    clear hn
    obtain ⟨s1, s2⟩ := gone_step window now l k hk hg.out
    by_cases hlt : k < l.length
    · obtain ⟨x, hx⟩ : ∃ x, l[k]? = some x := ⟨_, List.getElem?_eq_getElem hlt⟩
      obtain ⟨t1, t2⟩ := s2 x hx
      obtain ⟨ad, rfl, had, k0, k1⟩ := cellAt R.out hx
      obtain ⟨x0, x1, x2, x3⟩ := HW.out x (List.mem_of_getElem? hx)
      clear s1 s2
      have HX := Lib.hid hx
      clear hx
      have T1 := Lib.hid t1
      have T2 := Lib.hid t2
      clear t1 t2
      by_cases hw : now - x.at_ < window
      · have hd : decide (now - x.at_ ≥ window) = false := by simp; omega
        go_wp2_with fail
        go_quiet (fail)
        go_wp2
        go_ret
        exact ⟨ret_int (by rw [HN.out, T1.out (by simp [within, hw])]), _, by rw [World.drewN_drewN]⟩
      · have hd : decide (now - x.at_ ≥ window) = true := by simp; omega
        go_wp2_with fail
        go_quiet (fail)
        go_wp2
        go_roundw
        case rel => exact ⟨k + 1, by omega, by go_num, Lib.hid (T2.out (by simp [within]; omega)), Lib.hid ⟨_, rfl⟩⟩
        case measure => simp [intOf]; omega
    · have hd : decide ((k : Int) < (l.length : Int)) = false := by simp; omega
      have S1 := Lib.hid s1
      clear s1 s2
      go_wp2_with fail
      go_quiet (fail)
      go_wp2
      go_ret
      exact ⟨ret_int (by rw [HN.out, S1.out (by omega)]), _, by rw [World.drewN_drewN]⟩
end Go.Proofs.Ytglblmpdefejmaa.Low
