/- Chapter 02 (octet): what is ahead of a reader; bytes that are put, taken, held against each other. -/
import Derived.Test.YtfbjmaajdblbfaaOctRead
set_option linter.unusedSimpArgs false
set_option linter.unusedVariables false
attribute [local go_sem ↓] Go.wp_at_zero Go.wp_at_succ
namespace Go.Proofs.Ytfbjmaajdblbfaa.Oct
open Go.RowKit Go.OpenShut Go.Proofs.Ytfbjmaajdblbfaa.Aid
theorem left_none (w : World) : Calls Try.prog 47 #[.pointer none] w (Same w (.int .i64 0)) := by
  go_enter Try.func47, Try.ntmps47
  go_wp2
  go_ret
  exact ⟨rfl, rfl⟩
theorem left_calls (g b cap at_ : Nat) (xs : List Int) (w : World) (h : IsR w g b cap at_ xs) : Calls Try.prog 47 #[.pointer (some ⟨g, 0, none⟩)] w (Gives w (.int .i64 ((xs.length : Int) - at_))) := by
  have c0 : w.cell? ⟨g, 0, none⟩ = some (.slice (some ⟨b, 0, none⟩) xs.length cap) := h.box.cell 0
  have c1 : w.cell? ⟨g, 1, none⟩ = some (.int .i64 at_) := h.box.cell 1
  have hl := h.le
  have hm := h.lim
  have ws : IntKind.i64.wrap ((xs.length : Int) - (at_ : Int)) = (xs.length : Int) - (at_ : Int) := IntWalk.i64_in _ (by omega)
  clear h
  go_enter Try.func47, Try.ntmps47
  go_wp2
  go_quiet (fail)
  go_wp2
  go_ret
  exact ⟨rfl, below_drewN (Below.refl _ _) _⟩
theorem rest_none (w : World) : Calls Try.prog 49 #[.pointer none] w (Same w (.slice none 0 0)) := by
  go_enter Try.func49, Try.ntmps49
  go_wp2
  go_ret
  exact ⟨rfl, rfl⟩
theorem row_nil (w : World) : RowOf 5 1 encB w (.slice none 0 0) ([] : List Int) := .inl ⟨rfl, rfl⟩
theorem fresh_of {w W w' : World} {v' : Value} {xs : List Int} (hb : Below w.heap.size w W) (hr : RowOf 5 1 encB w' v' ([] ++ xs)) (ha : App W w' (.slice none 0 0) v') : Fresh w xs (.returned v') w' := by
  refine ⟨v', rfl, hr, below_app hb ha (fun k hk => by simp [Value.ownBlock] at hk), fun k hk => ?_⟩
  rcases ha.own k hk with h1 | h1
  · simp [Value.ownBlock] at h1
  · have := hb.size
    omega
set_option maxRecDepth 100000 in
set_option maxHeartbeats 4000000 in
theorem rest_calls (g b cap at_ : Nat) (xs : List Int) (w : World) (h : IsR w g b cap at_ xs) : Calls Try.prog 49 #[.pointer (some ⟨g, 0, none⟩)] w (Fresh w (xs.drop at_)) := by
  obtain ⟨i0, hi, hz0, hz1, hz2⟩ := info_parts info5
  have c0 : w.cell? ⟨g, 0, none⟩ = some (.slice (some ⟨b, 0, none⟩) xs.length cap) := h.box.cell 0
  have c1 : w.cell? ⟨g, 1, none⟩ = some (.int .i64 at_) := h.box.cell 1
  have hl := h.le
  have hm := h.lim
  obtain ⟨hr1, hr2⟩ := h.room
  have q0 : (0 : Int) ≤ (at_ : Int) := by omega
  have q1 : (at_ : Int) ≤ (xs.length : Int) := by omega
  have hlen : (xs.drop at_).length = xs.length - at_ := List.length_drop
  have R : Hid (Reps w (some ⟨b, at_, none⟩) 1 encB (xs.drop at_)) := Lib.hid (by
    have := part (at_ := at_) (m := xs.length) h.row
    rwa [List.take_of_length_le (by rw [List.length_drop]; omega)] at this)
  clear h
  by_cases hc : cap = at_
  · have hn : xs.length = at_ := by omega
    have hd : xs.drop at_ = [] := by rw [List.drop_eq_nil_iff]; omega
    rw [hd]
    have HN := Lib.hid hn
    have hz : xs.length - at_ = 0 := by omega
    subst hc
    clear hn hd hlen
    go_enter Try.func49, Try.ntmps49
    go_wp2
    go_region_law ((refine step_append_any (by rfl) _ _ 43 (by rfl) i0 _ 1 Try.underlying43 hi hz0 hz1 hz2 (by decide) (by decide) encB_len encB_one (.slice none 0 0) ([] : List Int) (by rfl) (row_nil _) (some ⟨b, 0, none⟩) 0 _ [] rfl (by rfl) (by simp) (by intro i x hx; simp at hx) (by simp [maxLen]) (by simp) ?_; intro v' w' hr ha; have HR := Lib.hid hr; have HA := Lib.hid ha; clear hr ha))
    all_goals
      go_wp2
      go_ret
      exact fresh_of (below_drew (Below.refl _ w)) HR.out HA.out
  · go_enter Try.func49, Try.ntmps49
    go_wp2
    go_region_law ((refine step_append_any (by rfl) _ _ 43 (by rfl) i0 _ 1 Try.underlying43 hi hz0 hz1 hz2 (by decide) (by decide) encB_len encB_one (.slice none 0 0) ([] : List Int) (by rfl) (row_nil _) (some ⟨b, at_, none⟩) (xs.length - at_) _ (xs.drop at_) hlen (by rfl) (by simp) R.out (by simp; unfold maxLen; omega) (by simp; omega) ?_; intro v' w' hr ha; have HR := Lib.hid hr; have HA := Lib.hid ha; clear hr ha))
    all_goals
      go_wp2
      go_ret
      exact fresh_of (below_drew (Below.refl _ w)) HR.out HA.out
set_option maxRecDepth 100000 in
set_option maxHeartbeats 4000000 in
theorem same_calls (A B : Option Addr) (c d : Nat) (xs : List Int) (w : World) (hA : Reps w A 1 encB xs) (hB : Reps w B 1 encB xs) (hl : xs.length ≤ 9223372036854775807) : Calls Try.prog 41 #[.slice A xs.length c, .slice B xs.length d] w (Gives w (.bool true)) := by
  have RA := Lib.hid hA
  have RB := Lib.hid hB
  clear hA hB
  go_enter Try.func41, Try.ntmps41
  go_wp2
  go_loopw [5] (fun i wr => ∃ k : Nat, k ≤ xs.length ∧ i = .int .i64 k ∧ Hid (Below w.heap.size w wr)) (fun i _ => xs.length - (intOf i).toNat)
  case atStart => exact ⟨0, by omega, rfl, Lib.hid (Below.refl _ _)⟩
  case round =>
    obtain ⟨k, hk, rfl, hW⟩ := hrel
    by_cases hlt : k < xs.length
    · obtain ⟨x, hx⟩ : ∃ x, xs[k]? = some x := ⟨_, List.getElem?_eq_getElem hlt⟩
      obtain ⟨ad, rfl, had, hc⟩ := (RA.out.below hW.out) k x hx
      obtain ⟨bd, rfl, hbd, hc'⟩ := (RB.out.below hW.out) k x hx
      have c0 : wr.cell? (ad.add k) = some (.int .u8 x) := by have := hc 0 _ rfl; simpa using this
      have c1 : wr.cell? (bd.add k) = some (.int .u8 x) := by have := hc' 0 _ rfl; simpa using this
      have q0 : (0 : Int) ≤ (k : Int) := by omega
      have q1 : (k : Int) < (xs.length : Int) := by omega
      clear hc hc' hx
      go_wp2
      go_quiet (fail)
      go_wp2
      go_roundw
      case rel => exact ⟨k + 1, by omega, by go_num, Lib.hid (below_drewN hW.out _)⟩
      case measure => simp [intOf]; omega
    · obtain rfl : k = xs.length := by omega
      go_wp2
      go_ret
      exact ⟨rfl, hW.out⟩
/-- What is taken: bytes of the call's own. -/
def Takes (w : World) (g b cap at_ : Nat) (xs ys : List Int) (e : Ending) (w' : World) : Prop :=
  ∃ v, e = .returned (two v 0) ∧ RowOf 5 1 encB w' v ys ∧ IsR w' g b cap at_ xs ∧ Kept w w' g (.slice none 0 0)
/-- Nothing is taken, for a reason. -/
def Takes0 (w : World) (r : Int) (e : Ending) (w' : World) : Prop := ∃ v, e = .returned (two v r) ∧ RowOf 5 1 encB w' v [] ∧ Below w.heap.size w w'
theorem app_nil_below {w W w' : World} {v' : Value} (hb : Below w.heap.size w W) (ha : App W w' (.slice none 0 0) v') : Below w.heap.size w w' := below_app hb ha (fun k hk => by simp [Value.ownBlock] at hk)
theorem take_none (n : Int) (w : World) : Calls Try.prog 50 #[.pointer none, .int .i64 n] w (Takes0 w 1) := by
  obtain ⟨i0, hi, hz0, hz1, hz2⟩ := info_parts info5
  have K := Lib.hid (next_none n)
  unfold two at K
  go_enter Try.func50, Try.ntmps50
  go_wp2_with (first
    | (at_builtin; refine wpList_append_any (by rfl) _ _ 43 (by rfl) i0 _ 1 Try.underlying43 hi hz0 hz1 hz2 (by decide) (by decide) encB_len encB_one (.slice none 0 0) ([] : List Int) (by rfl) (row_nil _) none 0 0 [] rfl (by rfl) (fun _ => rfl) (by intro i x hx; simp at hx) (by simp [maxLen]) (by simp) ?c4)
    | ((refine (K.out _).mono ?_); rintro e w1 ⟨rfl, rfl⟩))
  intro v' w' hr ha
  have HR := Lib.hid hr
  have HA := Lib.hid ha
  clear hr ha
  go_wp2
  go_ret2
  exact ⟨v', rfl, HR.out, app_nil_below (Below.refl _ _) HA.out⟩
theorem take_arg (g b cap at_ : Nat) (xs : List Int) (n : Int) (w : World) (h : IsR w g b cap at_ xs) (hn : n < 0) : Calls Try.prog 50 #[.pointer (some ⟨g, 0, none⟩), .int .i64 n] w (Takes0 w 2) := by
  obtain ⟨i0, hi, hz0, hz1, hz2⟩ := info_parts info5
  have K := Lib.hid (next_arg g b cap at_ xs n w h hn)
  unfold two at K
  clear h
  go_enter Try.func50, Try.ntmps50
  go_wp2_with (first
    | (at_builtin; refine wpList_append_any (by rfl) _ _ 43 (by rfl) i0 _ 1 Try.underlying43 hi hz0 hz1 hz2 (by decide) (by decide) encB_len encB_one (.slice none 0 0) ([] : List Int) (by rfl) (row_nil _) none 0 0 [] rfl (by rfl) (fun _ => rfl) (by intro i x hx; simp at hx) (by simp [maxLen]) (by simp) ?c4)
    | ((refine K.out.mono ?_); rintro e w1 ⟨rfl, rfl⟩))
  intro v' w' hr ha
  have HR := Lib.hid hr
  have HA := Lib.hid ha
  clear hr ha
  go_wp2
  go_ret2
  exact ⟨v', rfl, HR.out, app_nil_below (Below.refl _ _) HA.out⟩
theorem take_short (g b cap at_ : Nat) (xs : List Int) (n : Int) (w : World) (h : IsR w g b cap at_ xs) (hn : (xs.length : Int) - at_ < n) : Calls Try.prog 50 #[.pointer (some ⟨g, 0, none⟩), .int .i64 n] w (Takes0 w 5) := by
  obtain ⟨i0, hi, hz0, hz1, hz2⟩ := info_parts info5
  have K := Lib.hid (next_short g b cap at_ xs n w h hn)
  unfold two at K
  clear h
  go_enter Try.func50, Try.ntmps50
  go_wp2_with (first
    | (at_builtin; refine wpList_append_any (by rfl) _ _ 43 (by rfl) i0 _ 1 Try.underlying43 hi hz0 hz1 hz2 (by decide) (by decide) encB_len encB_one (.slice none 0 0) ([] : List Int) (by rfl) (row_nil _) none 0 0 [] rfl (by rfl) (fun _ => rfl) (by intro i x hx; simp at hx) (by simp [maxLen]) (by simp) ?c4)
    | ((refine K.out.mono ?_); rintro e w1 ⟨rfl, b1⟩))
  intro v' w' hr ha
  have HR := Lib.hid hr
  have HA := Lib.hid ha
  clear hr ha
  go_wp2
  go_ret2
  exact ⟨v', rfl, HR.out, app_nil_below b1 HA.out⟩
set_option maxHeartbeats 4000000 in
theorem take_ok (g b cap at_ m : Nat) (xs : List Int) (w : World) (h : IsR w g b cap at_ xs) (hn : at_ + m ≤ xs.length) : Calls Try.prog 50 #[.pointer (some ⟨g, 0, none⟩), .int .i64 m] w (Takes w g b cap (at_ + m) xs ((xs.drop at_).take m)) := by
  obtain ⟨i0, hi, hz0, hz1, hz2⟩ := info_parts info5
  have K := Lib.hid (next_ok g b cap at_ m xs w h hn)
  have hlen : ((xs.drop at_).take m).length = m := by rw [List.length_take, List.length_drop]; omega
  have hlim : m ≤ 140737488355328 := by have := h.lim; omega
  clear h
  go_enter Try.func50, Try.ntmps50
  go_wp2_with fail
  refine K.out.mono ?_
  rintro e w1 ⟨A, c, rfl, hA, hR, hI, hK⟩
  unfold two
  generalize (xs.drop at_).take m = ys at *
  have R := Lib.hid hR
  have I := Lib.hid hI
  have KK := Lib.hid hK
  have HAA := Lib.hid hA
  have HL := Lib.hid hlen
  clear hR hI hK K hA hlen
  go_wp2_with (at_builtin; refine wpList_append_any (by rfl) _ _ 43 (by rfl) i0 _ 1 Try.underlying43 hi hz0 hz1 hz2 (by decide) (by decide) encB_len encB_one (.slice none 0 0) ([] : List Int) (by rfl) (row_nil _) A m c ys HL.out (by rfl) HAA.out R.out (by simp; unfold maxLen; omega) (by simp; omega) ?c4)
  intro v' w' hr ha
  have hb := app_nil_below (Below.refl _ _) ha
  have HR := Lib.hid hr
  have HB := Lib.hid hb
  clear hr ha hb
  go_wp2
  go_ret2
  exact ⟨v', rfl, HR.out, I.out.below HB.out, ⟨HB.out.os.trans KK.out.os, HB.out.tape.trans KK.out.tape, HB.out.output.trans KK.out.output, Nat.le_trans KK.out.size HB.out.size, fun k hk h1 h2 => (HB.out.block k (Nat.lt_of_lt_of_le hk KK.out.size)).trans (KK.out.block k hk h1 h2)⟩⟩
set_option maxHeartbeats 4000000 in
theorem all_calls (g : Nat) (v0 : Value) (xs ys : List Int) (A : Option Addr) (c : Nat) (w : World) (h : IsW w g v0 xs) (hA : A = none → c = 0) (hR : Reps w A 1 encB ys) (hl : xs.length + ys.length ≤ 140737488300000) :
    Calls Try.prog 39 #[.pointer (some ⟨g, 0, none⟩), .slice A ys.length c] w (Puts w g v0 (.tuple #[]) (xs ++ ys)) := by
  obtain ⟨i0, hi, hz0, hz1, hz2⟩ := info_parts info5
  obtain ⟨B, n, cap, rfl⟩ := h.row.some_slice
  have c0 : w.cell? ⟨g, 0, none⟩ = some (.slice B n cap) := h.box.cell 0
  have H := Lib.hid h
  have R := Lib.hid hR
  have HAA := Lib.hid hA
  clear h hR hA
  go_enter Try.func39, Try.ntmps39
  go_wp2_with (at_builtin; refine wpList_append_any (by rfl) _ _ 43 (by rfl) i0 _ 1 Try.underlying43 hi hz0 hz1 hz2 (by decide) (by decide) encB_len encB_one (.slice B n cap) xs (by rfl) H.out.row A ys.length c ys rfl (by rfl) HAA.out R.out ?c2 ?c3 ?c4)
  case c2 => unfold maxLen; omega
  case c3 => omega
  case c4 =>
    intro v' w' hr ha
    obtain ⟨A', n', cap', rfl⟩ := hr.some_slice
    have X : Blk w' g 47 #[.slice B n cap] := (ha.block g H.out.box.lt H.out.apart).trans H.out.box
    have x3 : w'.cell? ⟨g, 0, none⟩ = some (.slice B n cap) := X.cell 0
    have xf := X.frozen
    have HA := Lib.hid ha
    have HR := Lib.hid hr
    clear X ha hr
    go_wp2
    go_end0
    exact ⟨rfl, _, from_append H.out (Below.refl _ _) HR.out HA.out⟩
end Go.Proofs.Ytfbjmaajdblbfaa.Oct
