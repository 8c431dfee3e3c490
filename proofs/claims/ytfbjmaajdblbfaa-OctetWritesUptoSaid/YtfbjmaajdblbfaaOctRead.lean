/- Chapter 02 (octet): a reader, and what is read. -/
import Derived.Test.YtfbjmaajdblbfaaOct
import Derived.IntWalk
import Derived.Laws.BitsAllLaws
set_option linter.unusedSimpArgs false
set_option linter.unusedVariables false
attribute [local go_sem ↓] Go.wp_at_zero Go.wp_at_succ
namespace Go.Proofs.Ytfbjmaajdblbfaa.Oct
open Go.RowKit Go.OpenShut Go.Proofs.Ytfbjmaajdblbfaa.Aid
def Gives (w : World) (v : Value) (e : Ending) (w' : World) : Prop := e = .returned v ∧ Below w.heap.size w w'
/-- A reader at block g, in front of the at-th byte of xs, which lie in block b. -/
structure IsR (W : World) (g b cap : Nat) (at_ : Nat) (xs : List Int) : Prop where
  box : Blk W g 83 #[.slice (some ⟨b, 0, none⟩) xs.length cap, .int .i64 at_]
  row : RowOf 5 1 encB W (.slice (some ⟨b, 0, none⟩) xs.length cap) xs
  apart : b ≠ g
  le : at_ ≤ xs.length
  lim : xs.length ≤ 140737488355328
  room : xs.length ≤ cap ∧ cap ≤ 9223372036854775807
theorem IsR.below {W W' : World} {g b cap at_ : Nat} {xs : List Int} (h : IsR W g b cap at_ xs) (hb : Below W.heap.size W W') : IsR W' g b cap at_ xs := ⟨h.box.below hb h.box.lt, h.row.below hb, h.apart, h.le, h.lim, h.room⟩
def two (a : Value) (b : Int) : Value := .tuple #[a, .int .i64 b]
theorem next_none (n : Int) (w : World) : Calls Try.prog 61 #[.pointer none, .int .i64 n] w (Same w (two (.slice none 0 0) 1)) := by
  go_enter Try.func61, Try.ntmps61
  go_wp2
  go_ret2
  exact ⟨rfl, rfl⟩
theorem next_arg (g b cap at_ : Nat) (xs : List Int) (n : Int) (w : World) (h : IsR w g b cap at_ xs) (hn : n < 0) : Calls Try.prog 61 #[.pointer (some ⟨g, 0, none⟩), .int .i64 n] w (Same w (two (.slice none 0 0) 2)) := by
  go_enter Try.func61, Try.ntmps61
  go_wp2
  go_ret2
  exact ⟨rfl, rfl⟩
theorem next_short (g b cap at_ : Nat) (xs : List Int) (n : Int) (w : World) (h : IsR w g b cap at_ xs) (hn : (xs.length : Int) - at_ < n) : Calls Try.prog 61 #[.pointer (some ⟨g, 0, none⟩), .int .i64 n] w (Gives w (two (.slice none 0 0) 5)) := by
  have c0 : w.cell? ⟨g, 0, none⟩ = some (.slice (some ⟨b, 0, none⟩) xs.length cap) := h.box.cell 0
  have c1 : w.cell? ⟨g, 1, none⟩ = some (.int .i64 at_) := h.box.cell 1
  have hl := h.le
  have hm := h.lim
  have n0 : ¬ n < 0 := by omega
  have ws : IntKind.i64.wrap ((xs.length : Int) - (at_ : Int)) = (xs.length : Int) - (at_ : Int) := IntWalk.i64_in _ (by omega)
  clear h
  go_enter Try.func61, Try.ntmps61
  go_wp2
  go_quiet (fail)
  go_wp2
  go_ret2
  exact ⟨rfl, below_drewN (Below.refl _ _) _⟩
/-- The next m bytes, and the reader behind them. -/
def Next (w : World) (g b cap at_ m : Nat) (xs : List Int) (e : Ending) (w' : World) : Prop :=
  ∃ A c, e = .returned (two (.slice A m c) 0) ∧ (A = none → c = 0) ∧ Reps w' A 1 encB ((xs.drop at_).take m) ∧ IsR w' g b cap (at_ + m) xs ∧ Kept w w' g (.slice none 0 0)
theorem moved {w : World} {g b cap at_ : Nat} {xs : List Int} (h : IsR w g b cap at_ xs) (m : Nat) (hn : at_ + m ≤ xs.length) (a n : Nat) :
    IsR (((w.drewN a).setCell ⟨g, 1, none⟩ (.int .i64 ((at_ : Int) + (m : Int)))).drewN n) g b cap (at_ + m) xs ∧ Kept w (((w.drewN a).setCell ⟨g, 1, none⟩ (.int .i64 ((at_ : Int) + (m : Int)))).drewN n) g (.slice none 0 0) := by
  refine ⟨⟨((Blk.drewN h.box a).set_ 1 _).eq (by simp), h.row.same (fun k hk => Below.heap_setCell (w.drewN a) _ _ k (fun e => ?_)), h.apart, hn, h.lim, h.room⟩, rfl, rfl, rfl, by simp [World.setCell, World.drewN], fun k hk h1 _ => Below.heap_setCell (w.drewN a) ⟨g, 1, none⟩ _ k h1⟩
  have : b = k := by simpa [Value.ownBlock] using hk
  exact h.apart (by rw [this]; exact e)
theorem part {W : World} {b cap n at_ m : Nat} {xs : List Int} (h : RowOf 5 1 encB W (.slice (some ⟨b, 0, none⟩) n cap) xs) : Reps W (some ⟨b, at_, none⟩) 1 encB ((xs.drop at_).take m) := by
  intro i x hx
  have hx2 : xs[at_ + i]? = some x := by
    have hlt : i < m := by
      have := (List.getElem?_eq_some_iff.1 hx).1
      rw [List.length_take] at this
      omega
    rw [List.getElem?_take_of_lt hlt, List.getElem?_drop] at hx
    exact hx
  have hb : b < W.heap.size := h.lt b (by simp [Value.ownBlock])
  refine ⟨_, rfl, hb, fun j v hv => ?_⟩
  match j, hv with
  | 0, hv =>
    simp [encB] at hv
    subst hv
    have := h.cell encB_len ((at_ + i) * 1 + 0) (.int .u8 x) (flat_get encB 1 encB_len xs (at_ + i) x 0 _ hx2 rfl)
    unfold Addr.add
    by_cases h0 : i * 1 + 0 = 0
    · obtain rfl : i = 0 := by omega
      simpa using this
    · rw [if_neg h0]
      simpa using this
  | j + 1, hv => simp [encB] at hv
set_option maxRecDepth 100000 in
set_option maxHeartbeats 4000000 in
theorem next_ok (g b cap at_ m : Nat) (xs : List Int) (w : World) (h : IsR w g b cap at_ xs) (hn : at_ + m ≤ xs.length) : Calls Try.prog 61 #[.pointer (some ⟨g, 0, none⟩), .int .i64 m] w (Next w g b cap at_ m xs) := by
  have c0 : w.cell? ⟨g, 0, none⟩ = some (.slice (some ⟨b, 0, none⟩) xs.length cap) := h.box.cell 0
  have c1 : w.cell? ⟨g, 1, none⟩ = some (.int .i64 at_) := h.box.cell 1
  have fz := h.box.frozen
  have hl := h.le
  have hm := h.lim
  obtain ⟨hr1, hr2⟩ := h.room
  have n0 : ¬ (m : Int) < 0 := by omega
  have ws : IntKind.i64.wrap ((xs.length : Int) - (at_ : Int)) = (xs.length : Int) - (at_ : Int) := IntWalk.i64_in _ (by omega)
  have ws2 : IntKind.i64.wrap ((at_ : Int) + (m : Int)) = (at_ : Int) + (m : Int) := IntWalk.i64_in _ (by omega)
  have ws3 : IntKind.i64.wrap ((at_ : Int) + (m : Int) - (m : Int)) = (at_ : Int) := by rw [show (at_ : Int) + (m : Int) - (m : Int) = (at_ : Int) by omega]; exact IntWalk.i64_in _ (by omega)
  have k1 : ¬ (xs.length : Int) - (at_ : Int) < (m : Int) := by omega
  have H := Lib.hid h
  clear h
  go_enter Try.func61, Try.ntmps61
  go_wp2
  go_quiet (fail)
  go_wp2
  have q0 : (0 : Int) ≤ (at_ : Int) := by omega
  have q1 : (at_ : Int) ≤ (at_ : Int) + (m : Int) := by omega
  have q2 : (at_ : Int) + (m : Int) ≤ (cap : Int) := by omega
  have q3 : ((at_ : Int) + (m : Int)).toNat = at_ + m := by omega
  have q4 : (0 : Int) ≤ (at_ : Int) + (m : Int) := by omega
  go_quiet (fail)
  go_wp2
  · go_ret2
    have hm0 : m = 0 := by omega
    obtain rfl : cap = at_ := by assumption
    refine ⟨some ⟨b, 0, none⟩, 0, rfl, (by simp), ?_, (moved H.out m hn _ _).1, (moved H.out m hn _ _).2⟩
    subst hm0
    intro i x hx
    simp at hx
  · go_ret2
    refine ⟨some ⟨b, at_, none⟩, cap - at_, rfl, (by simp), ?_, (moved H.out m hn _ _).1, (moved H.out m hn _ _).2⟩
    exact part (moved H.out m hn _ _).1.row
/-- The number that bytes say. -/
def val (xs : List Int) : Int := xs.foldl (fun n c => n * 256 + c) 0
theorem val_snoc (xs : List Int) (c : Int) : val (xs ++ [c]) = val xs * 256 + c := by simp [val, List.foldl_append]
theorem val_bd : ∀ (k : Nat) (xs : List Int), xs.length = k → (∀ x ∈ xs, 0 ≤ x ∧ x ≤ 255) → 0 ≤ val xs ∧ val xs < 256 ^ k := by
  intro k
  induction k with
  | zero => intro xs h _; obtain rfl : xs = [] := List.eq_nil_of_length_eq_zero h; simp [val]
  | succ k ih =>
    intro xs h hb
    obtain ⟨ys, c, rfl⟩ : ∃ ys c, xs = ys ++ [c] := by
      have hne : xs ≠ [] := by intro e; rw [e] at h; simp at h
      exact ⟨xs.dropLast, xs.getLast hne, (List.dropLast_concat_getLast hne).symm⟩
    have h1 := ih ys (by simpa using h) (fun x hx => hb x (by simp [hx]))
    have h2 := hb c (by simp)
    rw [val_snoc]
    have e : (256 : Int) ^ (k + 1) = 256 ^ k * 256 := by rw [Int.pow_succ]
    rw [e]
    omega
theorem or8 (n c : Int) (h0 : 0 ≤ n) (h1 : n ≤ 16777215) (hc : 0 ≤ c ∧ c ≤ 255) : bits .or .u32 (n * 256) c = n * 256 + c := by
  obtain ⟨q, rfl⟩ := Int.eq_ofNat_of_zero_le h0
  obtain ⟨y, rfl⟩ := Int.eq_ofNat_of_zero_le hc.1
  have e : ((q : Int) * 256) = ((2 ^ 8 * q : Nat) : Int) := by omega
  rw [e, u32_or_nat _ _ (by omega) (by omega), ← Nat.two_pow_add_eq_or_of_lt (by omega)]
  omega
theorem rnumber_none (s : Int) (w : World) : Calls Try.prog 58 #[.pointer none, .int .i64 s] w (Same w (.tuple #[.int .u32 0, .int .i64 1])) := by
  have K := Lib.hid (next_none s)
  unfold two at K
  go_enter Try.func58, Try.ntmps58
  go_wp2_with ((refine (K.out _).mono ?_); rintro e w1 ⟨rfl, rfl⟩)
  refine wp_loop_rounds 1 ?_
  rw [rounds_succ]
  go_wp2
  go_ret2
  exact ⟨rfl, rfl⟩
theorem rnumber_short (g b cap at_ s : Nat) (xs : List Int) (w : World) (h : IsR w g b cap at_ xs) (hn : xs.length < at_ + s) : Calls Try.prog 58 #[.pointer (some ⟨g, 0, none⟩), .int .i64 s] w (Gives w (.tuple #[.int .u32 0, .int .i64 5])) := by
  have K := Lib.hid (next_short g b cap at_ xs s w h (by omega))
  unfold two at K
  go_enter Try.func58, Try.ntmps58
  go_wp2_with ((refine K.out.mono ?_); rintro e w1 ⟨rfl, b1⟩)
  refine wp_loop_rounds 1 ?_
  rw [rounds_succ]
  go_wp2
  go_ret2
  exact ⟨rfl, b1⟩
def Reads (w : World) (g b cap at_ : Nat) (xs : List Int) (v : Value) (e : Ending) (w' : World) : Prop :=
  e = .returned (.tuple #[v, .int .i64 0]) ∧ IsR w' g b cap at_ xs ∧ Kept w w' g (.slice none 0 0)
set_option maxRecDepth 100000 in
set_option maxHeartbeats 4000000 in
theorem rnumber_ok (g b cap at_ s : Nat) (xs : List Int) (w : World) (h : IsR w g b cap at_ xs) (hb : ∀ x ∈ xs, 0 ≤ x ∧ x ≤ 255) (hs : s ≤ 4) (hn : at_ + s ≤ xs.length) :
    Calls Try.prog 58 #[.pointer (some ⟨g, 0, none⟩), .int .i64 s] w (Reads w g b cap (at_ + s) xs (.int .u32 (val ((xs.drop at_).take s)))) := by
  have K := Lib.hid (next_ok g b cap at_ s xs w h hn)
  have HB : Hid (∀ x ∈ (xs.drop at_).take s, 0 ≤ x ∧ x ≤ 255) := Lib.hid (fun x hx => hb x (List.mem_of_mem_drop (List.mem_of_mem_take hx)))
  have hlen : ((xs.drop at_).take s).length = s := by rw [List.length_take, List.length_drop]; omega
  clear h hb
  go_enter Try.func58, Try.ntmps58
  go_wp2_with fail
  refine K.out.mono ?_
  rintro e w1 ⟨A, c, rfl, hA, hR, hI, hK⟩
  unfold two
  generalize (xs.drop at_).take s = ys at *
  have R := Lib.hid hR
  have I := Lib.hid hI
  have KK := Lib.hid hK
  subst hlen
  clear hR hI hK K hA
  go_wp2
  go_loop [8, 19] (fun n i => ∃ k : Nat, k ≤ ys.length ∧ i = .int .i64 k ∧ n = .int .u32 (val (ys.take k))) (fun _ i => ys.length - (intOf i).toNat)
  case atStart => exact ⟨0, by omega, rfl, by simp [val]⟩
  case round =>
    obtain ⟨k, hk, rfl, rfl⟩ := hrel
    by_cases hlt : k < ys.length
    · obtain ⟨x, hx⟩ : ∃ x, ys[k]? = some x := ⟨_, List.getElem?_eq_getElem hlt⟩
      obtain ⟨ad, rfl, had, hc⟩ := R.out k x hx
      have c0 : w1.cell? (ad.add k) = some (.int .u8 x) := by have := hc 0 _ rfl; simpa using this
      have hxb := HB.out x (List.mem_of_getElem? hx)
      have htk : ys.take (k + 1) = ys.take k ++ [x] := by rw [List.take_succ_eq_append_getElem hlt, (List.getElem?_eq_some_iff.1 hx).2]
      have hv : val (ys.take (k + 1)) = val (ys.take k) * 256 + x := by rw [htk, val_snoc]
      have hbd := val_bd k (ys.take k) (by rw [List.length_take]; omega) (fun y hy => HB.out y (List.mem_of_mem_take hy))
      have hpw : (256 : Int) ^ k ≤ 16777216 := by
        have hk3 : k = 0 ∨ k = 1 ∨ k = 2 ∨ k = 3 := by omega
        rcases hk3 with rfl | rfl | rfl | rfl <;> decide
      have hor := or8 (val (ys.take k)) x hbd.1 (by omega) hxb
      have HV := Lib.hid hv
      obtain ⟨v0, v1⟩ := hbd
      have v2 : val (ys.take k) ≤ 16777215 := by omega
      obtain ⟨x0, x1⟩ := hxb
      clear hc hx htk hv hpw v1
      generalize val (ys.take k) = q at *
      go_wp2
      go_round
      case rel => exact ⟨k + 1, by omega, by go_num, by rw [HV.out]⟩
      case measure => simp [intOf]; omega
    · obtain rfl : k = ys.length := by omega
      rw [List.take_length]
      go_wp2
      go_ret2
      exact ⟨rfl, I.out, KK.out⟩
theorem rone_none (w : World) : Calls Try.prog 46 #[.pointer none] w (Same w (.tuple #[.int .u8 0, .int .i64 1])) := by
  have K := Lib.hid rnumber_none
  go_enter Try.func46, Try.ntmps46
  go_wp2_with ((refine (K.out _ _).mono ?_); rintro e w1 ⟨rfl, rfl⟩)
  go_ret2
  exact ⟨rfl, rfl⟩
theorem rone_short (g b cap at_ : Nat) (xs : List Int) (w : World) (h : IsR w g b cap at_ xs) (hn : xs.length < at_ + 1) : Calls Try.prog 46 #[.pointer (some ⟨g, 0, none⟩)] w (Gives w (.tuple #[.int .u8 0, .int .i64 5])) := by
  have K := Lib.hid (rnumber_short g b cap at_ 1 xs w h hn)
  go_enter Try.func46, Try.ntmps46
  go_wp2_with ((refine K.out.mono ?_); rintro e w1 ⟨rfl, b1⟩)
  go_ret2
  exact ⟨rfl, b1⟩
theorem rone_ok (g b cap at_ : Nat) (xs : List Int) (w : World) (h : IsR w g b cap at_ xs) (hb : ∀ x ∈ xs, 0 ≤ x ∧ x ≤ 255) (hn : at_ + 1 ≤ xs.length) :
    Calls Try.prog 46 #[.pointer (some ⟨g, 0, none⟩)] w (Reads w g b cap (at_ + 1) xs (.int .u8 (val ((xs.drop at_).take 1)))) := by
  have K := Lib.hid (rnumber_ok g b cap at_ 1 xs w h hb (by omega) hn)
  have hbd := val_bd 1 ((xs.drop at_).take 1) (by rw [List.length_take, List.length_drop]; omega) (fun x hx => hb x (List.mem_of_mem_drop (List.mem_of_mem_take hx)))
  obtain ⟨v0, v1⟩ := hbd
  have v2 : val ((xs.drop at_).take 1) ≤ 255 := by
    have e : (256 : Int) ^ 1 = 255 + 1 := by decide
    omega
  clear v1
  generalize val ((xs.drop at_).take 1) = q at *
  go_enter Try.func46, Try.ntmps46
  go_wp2_with fail
  refine K.out.mono ?_
  rintro e w1 ⟨rfl, hI, hK⟩
  have I := Lib.hid hI
  have KK := Lib.hid hK
  clear hI hK
  go_wp2
  go_ret2
  exact ⟨rfl, I.out, KK.out⟩
theorem rtwo_none (w : World) : Calls Try.prog 45 #[.pointer none] w (Same w (.tuple #[.int .u16 0, .int .i64 1])) := by
  have K := Lib.hid rnumber_none
  go_enter Try.func45, Try.ntmps45
  go_wp2_with ((refine (K.out _ _).mono ?_); rintro e w1 ⟨rfl, rfl⟩)
  go_ret2
  exact ⟨rfl, rfl⟩
theorem rtwo_short (g b cap at_ : Nat) (xs : List Int) (w : World) (h : IsR w g b cap at_ xs) (hn : xs.length < at_ + 2) : Calls Try.prog 45 #[.pointer (some ⟨g, 0, none⟩)] w (Gives w (.tuple #[.int .u16 0, .int .i64 5])) := by
  have K := Lib.hid (rnumber_short g b cap at_ 2 xs w h hn)
  go_enter Try.func45, Try.ntmps45
  go_wp2_with ((refine K.out.mono ?_); rintro e w1 ⟨rfl, b1⟩)
  go_ret2
  exact ⟨rfl, b1⟩
theorem rtwo_ok (g b cap at_ : Nat) (xs : List Int) (w : World) (h : IsR w g b cap at_ xs) (hb : ∀ x ∈ xs, 0 ≤ x ∧ x ≤ 255) (hn : at_ + 2 ≤ xs.length) :
    Calls Try.prog 45 #[.pointer (some ⟨g, 0, none⟩)] w (Reads w g b cap (at_ + 2) xs (.int .u16 (val ((xs.drop at_).take 2)))) := by
  have K := Lib.hid (rnumber_ok g b cap at_ 2 xs w h hb (by omega) hn)
  have hbd := val_bd 2 ((xs.drop at_).take 2) (by rw [List.length_take, List.length_drop]; omega) (fun x hx => hb x (List.mem_of_mem_drop (List.mem_of_mem_take hx)))
  obtain ⟨v0, v1⟩ := hbd
  have v2 : val ((xs.drop at_).take 2) ≤ 65535 := by
    have e : (256 : Int) ^ 2 = 65535 + 1 := by decide
    omega
  clear v1
  generalize val ((xs.drop at_).take 2) = q at *
  go_enter Try.func45, Try.ntmps45
  go_wp2_with fail
  refine K.out.mono ?_
  rintro e w1 ⟨rfl, hI, hK⟩
  have I := Lib.hid hI
  have KK := Lib.hid hK
  clear hI hK
  go_wp2
  go_ret2
  exact ⟨rfl, I.out, KK.out⟩
theorem rfour_none (w : World) : Calls Try.prog 44 #[.pointer none] w (Same w (.tuple #[.int .u32 0, .int .i64 1])) := by
  have K := Lib.hid rnumber_none
  go_enter Try.func44, Try.ntmps44
  go_wp2_with ((refine (K.out _ _).mono ?_); rintro e w1 ⟨rfl, rfl⟩)
  go_ret2
  exact ⟨rfl, rfl⟩
theorem rfour_short (g b cap at_ : Nat) (xs : List Int) (w : World) (h : IsR w g b cap at_ xs) (hn : xs.length < at_ + 4) : Calls Try.prog 44 #[.pointer (some ⟨g, 0, none⟩)] w (Gives w (.tuple #[.int .u32 0, .int .i64 5])) := by
  have K := Lib.hid (rnumber_short g b cap at_ 4 xs w h hn)
  go_enter Try.func44, Try.ntmps44
  go_wp2_with ((refine K.out.mono ?_); rintro e w1 ⟨rfl, b1⟩)
  go_ret2
  exact ⟨rfl, b1⟩
theorem rfour_ok (g b cap at_ : Nat) (xs : List Int) (w : World) (h : IsR w g b cap at_ xs) (hb : ∀ x ∈ xs, 0 ≤ x ∧ x ≤ 255) (hn : at_ + 4 ≤ xs.length) :
    Calls Try.prog 44 #[.pointer (some ⟨g, 0, none⟩)] w (Reads w g b cap (at_ + 4) xs (.int .u32 (val ((xs.drop at_).take 4)))) := by
  have K := Lib.hid (rnumber_ok g b cap at_ 4 xs w h hb (by omega) hn)
  have hbd := val_bd 4 ((xs.drop at_).take 4) (by rw [List.length_take, List.length_drop]; omega) (fun x hx => hb x (List.mem_of_mem_drop (List.mem_of_mem_take hx)))
  obtain ⟨v0, v1⟩ := hbd
  have v2 : val ((xs.drop at_).take 4) ≤ 4294967295 := by
    have e : (256 : Int) ^ 4 = 4294967295 + 1 := by decide
    omega
  clear v1
  generalize val ((xs.drop at_).take 4) = q at *
  go_enter Try.func44, Try.ntmps44
  go_wp2_with fail
  refine K.out.mono ?_
  rintro e w1 ⟨rfl, hI, hK⟩
  have I := Lib.hid hI
  have KK := Lib.hid hK
  clear hI hK
  go_wp2
  go_ret2
  exact ⟨rfl, I.out, KK.out⟩
/-- A new reader of a list that came in, or was made. -/
def NewR (w : World) (xs : List Int) (e : Ending) (w' : World) : Prop :=
  ∃ g b cap, e = .returned (.pointer (some ⟨g, 0, none⟩)) ∧ IsR w' g b cap 0 xs ∧ Below w.heap.size w w' ∧ w.heap.size ≤ g ∧ w.heap.size ≤ b
set_option maxHeartbeats 4000000 in
theorem newr_calls (A : Option Addr) (c : Nat) (xs : List Int) (w : World) (hA : A = none → c = 0) (hR : Reps w A 1 encB xs) (hl : xs.length ≤ 140737488355328) : Calls Try.prog 43 #[.slice A xs.length c] w (NewR w xs) := by
  obtain ⟨i0, hi, hz0, hz1, hz2⟩ := info_parts info5
  have R := Lib.hid (hR.below ((Below.refl _ w).alloc (Nat.le_refl _) (.cells #[] 5)))
  have HAA := Lib.hid hA
  clear hR hA
  go_enter Try.func43, Try.ntmps43
  go_wp2_with (at_builtin; refine wpList_append_any (by rfl) _ _ 43 (by rfl) i0 _ 1 Try.underlying43 hi hz0 hz1 hz2 (by decide) (by decide) encB_len encB_one (.slice (some ⟨w.heap.size, 0, none⟩) 0 0) ([] : List Int) (by rfl) (row_new w) A xs.length c xs rfl (by rfl) HAA.out R.out ?c2 ?c3 ?c4)
  case c2 => simp; unfold maxLen; omega
  case c3 => simp; omega
  case c4 =>
    intro v' w' hr ha
    have hr : RowOf 5 1 encB w' v' xs := hr
    obtain ⟨h0, _⟩ | ⟨b, cap, cur, rfl, r1, r2, r3, r4, r5⟩ := id hr
    · have := ha.live h0
      cases this
    · have HR := Lib.hid hr
      have HA := Lib.hid ha
      have hb : b < w'.heap.size := Blk.lt r3
      have hbw : w.heap.size ≤ b := by
        rcases ha.own b (by simp [Value.ownBlock]) with h1 | h1
        · have : w.heap.size = b := by simpa [Value.ownBlock] using h1
          omega
        · simp at h1
          omega
      clear ha hr r3 r4 r5
      go_wp2
      go_ret
      refine ⟨w'.heap.size, b, cap, rfl, ⟨Blk.new w' 83 _, HR.out.same (fun k hk => Below.heap_alloc w' _ k (HR.out.lt k hk)), by omega, Nat.zero_le _, hl, r1, r2⟩, ?_, ?_, hbw⟩
      · have B1 : Below w.heap.size w w' := below_app ((Below.refl _ w).alloc (Nat.le_refl _) (.cells #[] 5)) HA.out (fun k hk => by
          have : w.heap.size = k := by simpa [Value.ownBlock] using hk
          omega)
        exact B1.alloc B1.size _
      · have := HA.out.size
        simp at this
        omega
end Go.Proofs.Ytfbjmaajdblbfaa.Oct
