/- The walks of chapter 18's functions (prr), each by what it computes. -/
import Derived.Test.YtgahjgeopjdcfaaProg
import Derived.Test.YtgahjgeopjdcfaaAid
import Derived.WalkKit
import Derived.WalkSpells
import Derived.WalkLawsBesides
import Derived.RegionTactic
import Derived.ChangeAlike
import Derived.Deep.QuietTactic
import Derived.BigQuiet
import Derived.BigRegion
import Derived.Deep.RegionHeld3
import Derived.Deep.DrawnRows
import Derived.OpenShut
import Derived.StillTailTactics
namespace Go.Proofs.Ytgahjgeopjdcfaa.Prr
open Go.RowKit Go.OpenShut Go.Proofs.Ytgahjgeopjdcfaa.Aid
attribute [local go_sem] max_2 min_2 max2_i min2_i
structure Ep where
  mss : Int
  thresh : Int
  whole : Int
  delivered : Int
  out : Int
  left : Int
  began : Bool
def cells (s : Ep) : Array Value := #[.int .i64 s.mss, .int .i64 s.thresh, .int .i64 s.whole, .int .i64 s.delivered, .int .i64 s.out, .int .i64 s.left, .bool s.began]
def IsEp (w : World) (g : Nat) (s : Ep) : Prop := Blk w g 47 (cells s)
theorem facts {w : World} {g : Nat} {s : Ep} (h : IsEp w g s) : (∀ i, w.frozen? ⟨g, i, none⟩ = false) ∧ w.cell? ⟨g, 0, none⟩ = some (.int .i64 s.mss) ∧ w.cell? ⟨g, 1, none⟩ = some (.int .i64 s.thresh) ∧
    w.cell? ⟨g, 2, none⟩ = some (.int .i64 s.whole) ∧ w.cell? ⟨g, 3, none⟩ = some (.int .i64 s.delivered) ∧ w.cell? ⟨g, 4, none⟩ = some (.int .i64 s.out) ∧ w.cell? ⟨g, 5, none⟩ = some (.int .i64 s.left) ∧ w.cell? ⟨g, 6, none⟩ = some (.bool s.began) :=
  ⟨h.frozen, h.cell 0, h.cell 1, h.cell 2, h.cell 3, h.cell 4, h.cell 5, h.cell 6⟩
def Ok (s : Ep) : Prop := 1 ≤ s.mss ∧ s.mss ≤ 2048 ∧ 1 ≤ s.thresh ∧ s.thresh ≤ s.whole ∧ s.whole ≤ 1048576 ∧ 0 ≤ s.delivered ∧ s.delivered ≤ 1099511627776 ∧ 0 ≤ s.out ∧ s.out ≤ 1125899906842624 ∧ 0 ≤ s.left ∧ s.left ≤ 1125899906842624
def Post (g : Nat) (w : World) (v : Value) (s : Ep) (e : Ending) (w' : World) : Prop := e = .returned v ∧ IsEp w' g s ∧ w.grownBy w' (some g)
def share (s : Ep) : Int := (s.delivered * s.thresh + s.whole - 1) / s.whole
theorem mul_bd {a b m n : Int} (ha : 0 ≤ a) (hb : 0 ≤ b) (ham : a ≤ m) (hbn : b ≤ n) : 0 ≤ a * b ∧ a * b ≤ m * n :=
  ⟨Int.mul_nonneg ha hb, Int.mul_le_mul ham hbn hb (Int.le_trans ha ham)⟩
set_option maxHeartbeats 1000000 in
theorem room1_calls (g bp : Nat) (s : Ep) (w : World) (hs : IsEp w g s) (ho : Ok s) (hp : w.cell? ⟨bp, 0, none⟩ = some (.pointer (some ⟨g, 0, none⟩))) :
    Calls Try.prog 20 #[.pointer (some ⟨bp, 0, none⟩)] w fun e w' => e = .returned (.int .i64 (share s - s.out)) ∧ ∃ n, w' = w.drewN n := by
  obtain ⟨hf, c0, c1, c2, c3, c4, c5, c6⟩ := facts hs
  obtain ⟨mss, thresh, whole, delivered, out, left, began⟩ := s
  obtain ⟨o1, o2, o3, o4, o5, o6, o7, o8, o9, o10, o11⟩ := ho
  simp only at *
  have hm := mul_bd (m := 1099511627776) (n := 1048576) o6 (show (0 : Int) ≤ thresh by omega) o7 (show thresh ≤ 1048576 by omega)
  obtain ⟨m1, m2⟩ := hm
  have q1 : 0 ≤ (delivered * thresh + whole - 1) / whole := Int.ediv_nonneg (by omega) (by omega)
  have q2 : (delivered * thresh + whole - 1) / whole ≤ delivered * thresh + whole - 1 := Int.ediv_le_self _ (by omega)
  clear hs
  go_enter Try.func20, Try.ntmps20
  go_wp2
  go_quiet (fail)
  go_wp2
  go_ret
  exact ⟨rfl, _, rfl⟩
set_option maxHeartbeats 1000000 in
theorem room2_calls (g bp bq bd : Nat) (s : Ep) (pipe d : Int) (w : World) (hs : IsEp w g s) (ho : Ok s) (hp : w.cell? ⟨bp, 0, none⟩ = some (.pointer (some ⟨g, 0, none⟩)))
    (hq : w.cell? ⟨bq, 0, none⟩ = some (.int .i64 pipe)) (hd : w.cell? ⟨bd, 0, none⟩ = some (.int .i64 d)) (h1 : pipe ≤ s.thresh) (d0 : 0 ≤ d) (d1 : d ≤ 1048576) :
    Calls Try.prog 21 #[.pointer (some ⟨bp, 0, none⟩), .pointer (some ⟨bq, 0, none⟩), .pointer (some ⟨bd, 0, none⟩)] w fun e w' => e = .returned (.int .i64 (min (s.thresh - max pipe 0) (max (s.delivered - s.out) d + s.mss))) ∧ ∃ n, w' = w.drewN n := by
  obtain ⟨hf, c0, c1, c2, c3, c4, c5, c6⟩ := facts hs
  obtain ⟨mss, thresh, whole, delivered, out, left, began⟩ := s
  obtain ⟨o1, o2, o3, o4, o5, o6, o7, o8, o9, o10, o11⟩ := ho
  simp only at *
  clear hs
  go_enter Try.func21, Try.ntmps21
  go_wp2
  go_quiet (fail)
  go_wp2
  go_ret
  exact ⟨rfl, _, rfl⟩
def Right (m f t : Int) : Prop := 1 ≤ m ∧ m ≤ 2048 ∧ 0 ≤ f ∧ f ≤ 1048576 ∧ 1 ≤ t ∧ t ≤ 1048576
def Fresh (m f t : Int) (w : World) (e : Ending) (w' : World) : Prop := e = .returned (.tuple #[.pointer (some ⟨w.heap.size, 0, none⟩), .int .i64 0]) ∧ IsEp w' w.heap.size ⟨m, t, max f t, 0, 0, 0, false⟩ ∧ Below w.heap.size w w' ∧ w.heap.size < w'.heap.size
theorem new_ok (m f t : Int) (w : World) (h : Right m f t) : Calls Try.prog 8 #[.int .i64 m, .int .i64 f, .int .i64 t] w (Fresh m f t w) := by
  obtain ⟨h1, h2, h3, h4, h5, h6⟩ := h
  go_enter Try.func8, Try.ntmps8
  go_wp2
  go_ret2
  exact ⟨rfl, Blk.new _ _ _, (Below.refl _ w).alloc (Nat.le_refl _) _, by simp⟩
theorem new_bad (m f t : Int) (w : World) (h : ¬ Right m f t) : Calls Try.prog 8 #[.int .i64 m, .int .i64 f, .int .i64 t] w fun e w' => e = .returned (.tuple #[.pointer none, .int .i64 2]) ∧ w = w' := by
  have hc : m < 1 ∨ (¬ m < 1 ∧ m > 2048) ∨ (¬ m < 1 ∧ ¬ m > 2048 ∧ f < 0) ∨ (¬ m < 1 ∧ ¬ m > 2048 ∧ ¬ f < 0 ∧ f > 1048576) ∨ (¬ m < 1 ∧ ¬ m > 2048 ∧ ¬ f < 0 ∧ ¬ f > 1048576 ∧ t < 1) ∨ (¬ m < 1 ∧ ¬ m > 2048 ∧ ¬ f < 0 ∧ ¬ f > 1048576 ∧ ¬ t < 1 ∧ t > 1048576) := by
    unfold Right at h; omega
  clear h
  rcases hc with h1 | ⟨h1, h2⟩ | ⟨h1, h2, h3⟩ | ⟨h1, h2, h3, h4⟩ | ⟨h1, h2, h3, h4, h5⟩ | ⟨h1, h2, h3, h4, h5, h6⟩
  all_goals
    go_enter Try.func8, Try.ntmps8
    go_wp2
    go_ret2
    exact ⟨rfl, rfl⟩
def sent (s : Ep) (n : Int) : Ep × Int := if n < 0 then (s, 3) else if n > s.left then (s, 4) else ({ s with out := s.out + n, left := s.left - n }, 0)
theorem sent_calls (g : Nat) (s : Ep) (n : Int) (w : World) (hs : IsEp w g s) (ho : Ok s) :
    Calls Try.prog 10 #[.pointer (some ⟨g, 0, none⟩), .int .i64 n] w (Post g w (.int .i64 (sent s n).2) (sent s n).1) := by
  obtain ⟨hf, c0, c1, c2, c3, c4, c5, c6⟩ := facts hs
  have HS := Lib.hid hs
  clear hs
  obtain ⟨mss, thresh, whole, delivered, out, left, began⟩ := s
  obtain ⟨o1, o2, o3, o4, o5, o6, o7, o8, o9, o10, o11⟩ := ho
  simp only at *
  by_cases h1 : n < 0
  · go_enter Try.func10, Try.ntmps10
    go_wp2
    go_ret
    rw [sent, if_pos h1]
    exact ⟨rfl, HS.out, grown_refl _ _⟩
  · by_cases h2 : n > left
    · go_enter Try.func10, Try.ntmps10
      go_wp2
      go_ret
      rw [sent, if_neg (by omega), if_pos h2]
      exact ⟨rfl, HS.out, grown_refl _ _⟩
    · go_enter Try.func10, Try.ntmps10
      go_wp2
      go_ret
      rw [sent, if_neg (by omega), if_neg (by simp only; omega)]
      exact ⟨rfl, ((HS.out.set_ 4 _).set_ 5 _).eq rfl, grown_set (grown_set (grown_refl _ _) _ _) _ _⟩
def first (s : Ep) : Ep × Int := if s.began = true ∨ s.out > 0 then (s, 13) else ({ s with began := true, left := max s.left s.mss }, 0)
theorem first_calls (g : Nat) (s : Ep) (w : World) (hs : IsEp w g s) (ho : Ok s) :
    Calls Try.prog 15 #[.pointer (some ⟨g, 0, none⟩)] w (Post g w (.int .i64 (first s).2) (first s).1) := by
  obtain ⟨hf, c0, c1, c2, c3, c4, c5, c6⟩ := facts hs
  have HS := Lib.hid hs
  clear hs
  obtain ⟨mss, thresh, whole, delivered, out, left, began⟩ := s
  obtain ⟨o1, o2, o3, o4, o5, o6, o7, o8, o9, o10, o11⟩ := ho
  simp only at *
  cases began with
  | true =>
    go_enter Try.func15, Try.ntmps15
    go_wp2
    go_ret
    rw [first, if_pos (.inl rfl)]
    exact ⟨rfl, HS.out, grown_refl _ _⟩
  | false =>
    by_cases h2 : out > 0
    · go_enter Try.func15, Try.ntmps15
      go_wp2
      go_ret
      rw [first, if_pos (.inr h2)]
      exact ⟨rfl, HS.out, grown_refl _ _⟩
    · go_enter Try.func15, Try.ntmps15
      go_wp2
      go_region
      go_wp2
      go_ret
      rw [first, if_neg (by simp only; simp; omega)]
      exact ⟨rfl, (((HS.out.set_ 6 _).set_ 5 _).drew).eq rfl, grown_drew (grown_set (grown_set (grown_refl _ _) _ _) _ _)⟩
theorem left_calls (g : Nat) (s : Ep) (w : World) (hs : IsEp w g s) : Calls Try.prog 11 #[.pointer (some ⟨g, 0, none⟩)] w fun e w' => e = .returned (.int .i64 s.left) ∧ w = w' := by
  obtain ⟨hf, c0, c1, c2, c3, c4, c5, c6⟩ := facts hs
  clear hs
  go_enter Try.func11, Try.ntmps11
  go_wp2
  go_ret
  exact ⟨rfl, rfl⟩
theorem delivered_calls (g : Nat) (s : Ep) (w : World) (hs : IsEp w g s) : Calls Try.prog 12 #[.pointer (some ⟨g, 0, none⟩)] w fun e w' => e = .returned (.int .i64 s.delivered) ∧ w = w' := by
  obtain ⟨hf, c0, c1, c2, c3, c4, c5, c6⟩ := facts hs
  clear hs
  go_enter Try.func12, Try.ntmps12
  go_wp2
  go_ret
  exact ⟨rfl, rfl⟩
theorem out_calls (g : Nat) (s : Ep) (w : World) (hs : IsEp w g s) : Calls Try.prog 13 #[.pointer (some ⟨g, 0, none⟩)] w fun e w' => e = .returned (.int .i64 s.out) ∧ w = w' := by
  obtain ⟨hf, c0, c1, c2, c3, c4, c5, c6⟩ := facts hs
  clear hs
  go_enter Try.func13, Try.ntmps13
  go_wp2
  go_ret
  exact ⟨rfl, rfl⟩
theorem whole_calls (g : Nat) (s : Ep) (w : World) (hs : IsEp w g s) : Calls Try.prog 19 #[.pointer (some ⟨g, 0, none⟩)] w fun e w' => e = .returned (.int .i64 s.whole) ∧ w = w' := by
  obtain ⟨hf, c0, c1, c2, c3, c4, c5, c6⟩ := facts hs
  clear hs
  go_enter Try.func19, Try.ntmps19
  go_wp2
  go_ret
  exact ⟨rfl, rfl⟩
theorem clone_calls (g : Nat) (s : Ep) (w : World) (hs : IsEp w g s) : Calls Try.prog 17 #[.pointer (some ⟨g, 0, none⟩)] w fun e w' => e = .returned (.pointer (some ⟨w.heap.size, 0, none⟩)) ∧ IsEp w' w.heap.size s ∧ Below w.heap.size w w' ∧ w'.heap.size = w.heap.size + 1 := by
  obtain ⟨hf, c0, c1, c2, c3, c4, c5, c6⟩ := facts hs
  have hlt := hs.lt
  clear hs
  go_enter Try.func17, Try.ntmps17
  go_wp2
  go_ret
  exact ⟨rfl, Blk.new _ _ _, (Below.refl _ w).alloc (Nat.le_refl _) _, by simp⟩
/-- What came, before the room is told. -/
def came (s : Ep) (d : Int) : Ep := { s with delivered := min (s.delivered + min (max d 0) 1048576) 1099511627776 }
def room (s : Ep) (d pipe : Int) : Int :=
  if pipe ≤ s.thresh then min (s.thresh - max pipe 0) (max ((came s d).delivered - s.out) (min (max d 0) 1048576) + s.mss) else share (came s d) - s.out
def ack (s : Ep) (d pipe : Int) : Ep := { came s d with left := max (room s d pipe) 0 }
theorem came_ok (s : Ep) (d : Int) (ho : Ok s) : Ok (came s d) := by
  obtain ⟨o1, o2, o3, o4, o5, o6, o7, o8, o9, o10, o11⟩ := ho
  simp only [came, Ok]
  omega
set_option maxHeartbeats 2000000 in
theorem ack_calls (g : Nat) (s : Ep) (d pipe : Int) (w : World) (hs : IsEp w g s) (ho : Ok s) :
    Calls Try.prog 9 #[.pointer (some ⟨g, 0, none⟩), .int .i64 d, .int .i64 pipe] w (Post g w (.int .i64 (ack s d pipe).left) (ack s d pipe)) := by
  have hlt := hs.lt
  have hk : Ok (came s d) := came_ok s d ho
  obtain ⟨o1, o2, o3, o4, o5, o6, o7, o8, o9, o10, o11⟩ := ho
  obtain ⟨W, hW⟩ : ∃ W, W = ((w.alloc (.cells #[.pointer (some ⟨g, 0, none⟩)] 24)).alloc (.cells #[.int .i64 pipe] 3)).alloc (.cells #[.int .i64 (min (max d 0) 1048576)] 3) := ⟨_, rfl⟩
  have h4 : IsEp W g s := by rw [hW]; exact ((hs.alloc _).alloc _).alloc _
  have gW : w.grownBy W (some g) := by rw [hW]; exact grown_alloc (grown_alloc (grown_alloc (grown_refl _ _) _) _) _
  have p1 : Blk W w.heap.size 24 #[.pointer (some ⟨g, 0, none⟩)] := by rw [hW]; exact ((Blk.new w _ _).alloc _).alloc _
  have p2 : Blk W (w.heap.size + 1) 3 #[.int .i64 pipe] := by rw [hW]; have := (Blk.new (w.alloc (.cells #[.pointer (some ⟨g, 0, none⟩)] 24)) 3 #[.int .i64 pipe]).alloc (.cells #[.int .i64 (min (max d 0) 1048576)] 3); simpa using this
  have p3 : Blk W (w.heap.size + 1 + 1) 3 #[.int .i64 (min (max d 0) 1048576)] := by rw [hW]; have := (Blk.new ((w.alloc (.cells #[.pointer (some ⟨g, 0, none⟩)] 24)).alloc (.cells #[.int .i64 pipe] 3)) 3 #[.int .i64 (min (max d 0) 1048576)]); simpa using this
  have HW := Lib.hid hW
  clear hW hs
  have P1 := Lib.hid p1
  have P2 := Lib.hid p2
  have P3 := Lib.hid p3
  have q1 : W.cell? ⟨w.heap.size, 0, none⟩ = some (.pointer (some ⟨g, 0, none⟩)) := p1.cell 0
  have q2 : W.cell? ⟨w.heap.size + 1, 0, none⟩ = some (.int .i64 pipe) := p2.cell 0
  have q3 : W.cell? ⟨w.heap.size + 1 + 1, 0, none⟩ = some (.int .i64 (min (max d 0) 1048576)) := p3.cell 0
  clear p1 p2 p3
  obtain ⟨hf, c0, c1, c2, c3, c4, c5, c6⟩ := facts h4
  have H4 := Lib.hid h4
  clear h4
  by_cases h1 : pipe ≤ s.thresh
  · have E : Hid (ack s d pipe = { came s d with left := max (min (s.thresh - max pipe 0) (max ((came s d).delivered - s.out) (min (max d 0) 1048576) + s.mss)) 0 }) := Lib.hid (by rw [ack, room, if_pos h1])
    go_enter Try.func9, Try.ntmps9
    go_wp2
    rw [← HW.out]
    go_region
    go_wp2
    obtain ⟨W5, hW5⟩ : ∃ W5, W5 = (W.setCell ⟨g, 3, none⟩ (.int .i64 (min (s.delivered + min (max d 0) 1048576) 1099511627776))).drew := ⟨_, rfl⟩
    rw [← hW5]
    have h5 : IsEp W5 g (came s d) := by rw [hW5]; exact (H4.out.set_ 3 _).drew.eq rfl
    have g5 : w.grownBy W5 (some g) := by rw [hW5]; exact grown_drew (grown_set gW _ _)
    have r1 : W5.cell? ⟨w.heap.size, 0, none⟩ = some (.pointer (some ⟨g, 0, none⟩)) := by rw [hW5]; exact ((P1.out.far (p := ⟨g, 3, none⟩) (by simp only; omega) _).cell 0)
    have r2 : W5.cell? ⟨w.heap.size + 1, 0, none⟩ = some (.int .i64 pipe) := by rw [hW5]; exact ((P2.out.far (p := ⟨g, 3, none⟩) (by simp only; omega) _).cell 0)
    have r3 : W5.cell? ⟨w.heap.size + 1 + 1, 0, none⟩ = some (.int .i64 (min (max d 0) 1048576)) := by rw [hW5]; exact ((P3.out.far (p := ⟨g, 3, none⟩) (by simp only; omega) _).cell 0)
    clear hW5 hf c0 c1 c2 c3 c4 c5 c6 q1 q2 q3 HW gW P1 P2 P3 H4
    obtain ⟨hf, c0, c1, c2, c3, c4, c5, c6⟩ := facts h5
    have H5 := Lib.hid h5
    have e1 : (came s d).thresh = s.thresh := rfl
    clear h5
    go_quiet (fail)
    go_wp2
    go_region_with (first | (go_at_call 21; refine (room2_calls g w.heap.size (w.heap.size + 1) (w.heap.size + 1 + 1) (came s d) pipe (min (max d 0) 1048576) _ ?_ hk ?_ ?_ ?_ (by exact h1) (by omega) (by omega)).mono ?_; exact H5.out; exact r1; exact r2; exact r3; rintro e w' ⟨rfl, n, rfl⟩))
    all_goals go_wp2
    all_goals go_ret
    all_goals rw [E.out]
    all_goals exact ⟨rfl, (H5.out.set_ 5 _).eq rfl, by repeat (first | exact g5 | apply grown_drewN | apply grown_drew | apply grown_set)⟩
  · have E : Hid (ack s d pipe = { came s d with left := max (share (came s d) - s.out) 0 }) := Lib.hid (by rw [ack, room, if_neg h1])
    go_enter Try.func9, Try.ntmps9
    go_wp2
    rw [← HW.out]
    go_region
    go_wp2
    obtain ⟨W5, hW5⟩ : ∃ W5, W5 = (W.setCell ⟨g, 3, none⟩ (.int .i64 (min (s.delivered + min (max d 0) 1048576) 1099511627776))).drew := ⟨_, rfl⟩
    rw [← hW5]
    have h5 : IsEp W5 g (came s d) := by rw [hW5]; exact (H4.out.set_ 3 _).drew.eq rfl
    have g5 : w.grownBy W5 (some g) := by rw [hW5]; exact grown_drew (grown_set gW _ _)
    have r1 : W5.cell? ⟨w.heap.size, 0, none⟩ = some (.pointer (some ⟨g, 0, none⟩)) := by rw [hW5]; exact ((P1.out.far (p := ⟨g, 3, none⟩) (by simp only; omega) _).cell 0)
    have r2 : W5.cell? ⟨w.heap.size + 1, 0, none⟩ = some (.int .i64 pipe) := by rw [hW5]; exact ((P2.out.far (p := ⟨g, 3, none⟩) (by simp only; omega) _).cell 0)
    have r3 : W5.cell? ⟨w.heap.size + 1 + 1, 0, none⟩ = some (.int .i64 (min (max d 0) 1048576)) := by rw [hW5]; exact ((P3.out.far (p := ⟨g, 3, none⟩) (by simp only; omega) _).cell 0)
    clear hW5 hf c0 c1 c2 c3 c4 c5 c6 q1 q2 q3 HW gW P1 P2 P3 H4
    obtain ⟨hf, c0, c1, c2, c3, c4, c5, c6⟩ := facts h5
    have H5 := Lib.hid h5
    have e1 : (came s d).thresh = s.thresh := rfl
    clear h5
    go_quiet (fail)
    go_wp2
    go_region_with (first | (go_at_call 20; refine (room1_calls g w.heap.size (came s d) _ ?_ hk ?_).mono ?_; exact H5.out; exact r1; rintro e w' ⟨rfl, n, rfl⟩))
    all_goals go_wp2
    all_goals go_ret
    all_goals rw [E.out]
    all_goals exact ⟨rfl, (H5.out.set_ 5 _).eq rfl, by repeat (first | exact g5 | apply grown_drewN | apply grown_drew | apply grown_set)⟩
theorem ack_ok (s : Ep) (d pipe B : Int) (ho : Ok s) (hB : s.out + s.left ≤ B) (hB2 : 1099511627777 ≤ B) (hB3 : B + 1048576 ≤ 1125899906842624) : Ok (ack s d pipe) ∧ (ack s d pipe).out + (ack s d pipe).left ≤ B + 1048576 := by
  have hk := came_ok s d ho
  obtain ⟨o1, o2, o3, o4, o5, o6, o7, o8, o9, o10, o11⟩ := ho
  have hs : share (came s d) ≤ (came s d).delivered ∧ 0 ≤ share (came s d) := by
    obtain ⟨k1, k2, k3, k4, k5, k6, k7, k8, k9, k10, k11⟩ := hk
    unfold share
    have hm : (came s d).delivered * (came s d).thresh ≤ (came s d).delivered * (came s d).whole := Int.mul_le_mul_of_nonneg_left k4 k6
    have hm0 : 0 ≤ (came s d).delivered * (came s d).thresh := Int.mul_nonneg k6 (by omega)
    refine ⟨?_, Int.ediv_nonneg (by omega) (by omega)⟩
    have : ((came s d).delivered * (came s d).thresh + (came s d).whole - 1) / (came s d).whole < (came s d).delivered + 1 := by
      rw [Int.ediv_lt_iff_lt_mul (by omega), Int.add_mul]
      omega
    omega
  have hr : room s d pipe ≤ 1048576 ∨ room s d pipe ≤ 1099511627776 - s.out := by
    unfold room
    split
    · left; omega
    · right; have := hk.2.2.2.2.2.2.1; omega
  generalize hR : room s d pipe = R at hr
  obtain ⟨k1, k2, k3, k4, k5, k6, k7, k8, k9, k10, k11⟩ := hk
  refine ⟨⟨o1, o2, o3, o4, o5, k6, k7, o8, o9, ?_, ?_⟩, ?_⟩ <;> simp only [ack, came, hR] <;> omega
theorem sent_ok (s : Ep) (n B : Int) (ho : Ok s) (hB : s.out + s.left ≤ B) (hB3 : B ≤ 1125899906842624) : Ok (sent s n).1 ∧ (sent s n).1.out + (sent s n).1.left ≤ B := by
  unfold sent
  split
  · exact ⟨ho, hB⟩
  · split
    · exact ⟨ho, hB⟩
    · obtain ⟨o1, o2, o3, o4, o5, o6, o7, o8, o9, o10, o11⟩ := ho
      exact ⟨⟨o1, o2, o3, o4, o5, o6, o7, by simp only; omega, by simp only; omega, by simp only; omega, by simp only; omega⟩, by simp only; omega⟩
theorem first_ok (s : Ep) (B : Int) (ho : Ok s) (hB : s.out + s.left ≤ B) (hB2 : 2048 ≤ B) (hB3 : B ≤ 1125899906842624) : Ok (first s).1 ∧ (first s).1.out + (first s).1.left ≤ B := by
  unfold first
  split
  · exact ⟨ho, hB⟩
  · rename_i h
    simp only [not_or] at h
    obtain ⟨o1, o2, o3, o4, o5, o6, o7, o8, o9, o10, o11⟩ := ho
    exact ⟨⟨o1, o2, o3, o4, o5, o6, o7, o8, o9, by simp only; omega, by simp only; omega⟩, by simp only; omega⟩
def k0 : Ep := ⟨10, 50, 100, 0, 0, 0, false⟩
def k1 : Ep := ⟨10, 50, 100, 10, 0, 5, false⟩
def k2 : Ep := ⟨10, 50, 100, 10, 5, 0, false⟩
def k3 : Ep := ⟨10, 50, 100, 20, 5, 5, false⟩
def k4 : Ep := ⟨10, 50, 100, 30, 5, 10, false⟩
set_option maxHeartbeats 1000000 in
theorem known_calls (w : World) : Calls Try.prog 7 #[] w fun e w' => e = .returned (.bool true) ∧ Below w.heap.size w w' := by
  have o0 : Ok k0 := by simp [Ok, k0]
  have o1 : Ok k1 := by simp [Ok, k1]
  have o2 : Ok k2 := by simp [Ok, k2]
  have o3 : Ok k3 := by simp [Ok, k3]
  have o4 : Ok k4 := by simp [Ok, k4]
  have A1 : Hid (ack k0 10 90 = k1) := Lib.hid (by rfl)
  have A2 : Hid (sent k1 5 = (k2, 0)) := Lib.hid (by rfl)
  have A3 : Hid (ack k2 10 80 = k3) := Lib.hid (by rfl)
  have A4 : Hid (ack k3 10 40 = k4) := Lib.hid (by rfl)
  have A5 : Hid (sent k4 11 = (k4, 4)) := Lib.hid (by rfl)
  go_enter Try.func7, Try.ntmps7
  go_wp2_with fail
  refine (new_ok 10 100 50 _ (by unfold Right; omega)).mono ?_
  rintro e w1 ⟨rfl, h1, b1, s1⟩
  have H1 : Hid (IsEp w1 w.heap.size k0) := Lib.hid h1
  clear h1
  go_wp2_with fail
  refine (ack_calls _ k0 _ _ _ H1.out o0).mono ?_
  rintro e w2 ⟨rfl, h2, g2⟩
  rw [A1.out] at h2 ⊢
  rw [show k1.left = 5 from rfl]
  have H2 := Lib.hid h2
  have b2 := below_grown b1 b1.size g2 (Nat.le_refl _)
  clear h2 g2 b1
  go_wp2_with fail
  refine (sent_calls _ k1 _ _ H2.out o1).mono ?_
  rintro e w3 ⟨rfl, h3, g3⟩
  rw [A2.out] at h3 ⊢
  have H3 : Hid (IsEp w3 w.heap.size k2) := Lib.hid h3
  have b3 := below_grown b2 b2.size g3 (Nat.le_refl _)
  clear h3 g3 b2
  go_wp2_with fail
  refine (ack_calls _ k2 _ _ _ H3.out o2).mono ?_
  rintro e w4 ⟨rfl, h4, g4⟩
  rw [A3.out] at h4 ⊢
  rw [show k3.left = 5 from rfl]
  have H4 := Lib.hid h4
  have b4 := below_grown b3 b3.size g4 (Nat.le_refl _)
  clear h4 g4 b3
  go_wp2_with fail
  refine (ack_calls _ k3 _ _ _ H4.out o3).mono ?_
  rintro e w5 ⟨rfl, h5, g5⟩
  rw [A4.out] at h5 ⊢
  rw [show k4.left = 10 from rfl]
  have H5 := Lib.hid h5
  have b5 := below_grown b4 b4.size g5 (Nat.le_refl _)
  clear h5 g5 b4
  go_wp2_with fail
  refine (sent_calls _ k4 _ _ H5.out o4).mono ?_
  rintro e w6 ⟨rfl, h6, g6⟩
  rw [A5.out] at h6 ⊢
  have b6 := below_grown b5 b5.size g6 (Nat.le_refl _)
  clear h6 g6 b5
  go_wp2
  go_ret
  exact ⟨rfl, b6⟩
end Go.Proofs.Ytgahjgeopjdcfaa.Prr
