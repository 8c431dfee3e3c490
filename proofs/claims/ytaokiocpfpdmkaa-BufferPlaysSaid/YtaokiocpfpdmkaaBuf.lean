/- Chapter 21 (buffer): a buffer in memory; what asks it, frees, and makes one. -/
import Derived.Test.YtaokiocpfpdmkaaLed
import Derived.BigQuiet
import Derived.IntWalk
import Derived.Laws.CopyOwn
set_option linter.unusedSimpArgs false
set_option linter.unusedVariables false
attribute [local go_sem ↓] Go.wp_at_zero Go.wp_at_succ
namespace Go.Proofs.Ytaokiocpfpdmkaa.Buff
open Go.BigFrame Go.RowKit Go.OpenShut Go.Proofs.Ytaokiocpfpdmkaa.Aid Go.Proofs.Ytaokiocpfpdmkaa.Spans
open Led (Kept kept_refl kept_set kept_drewN kept_drew kept_below below_kept)
attribute [local go_sem] max_2 min_2 max2_i min2_i
structure Buf where
  una : Int
  fin : Int
  ring : List Int
  cap : Nat
deriving Inhabited
def enc8 (x : Int) : Value := .int .u8 x
def encB (x : Int) : List Value := [.int .u8 x]
def Bytes (l : List Int) : Prop := ∀ x ∈ l, 0 ≤ x ∧ x ≤ 255
def slc (rb : Nat) (b : Buf) : Value := .slice (some ⟨rb, 0, Option.none⟩) b.ring.length b.cap
def bcells (rb : Nat) (b : Buf) : Array Value := #[slc rb b, .int .i64 b.una, .int .i64 b.fin]
structure Ok (b : Buf) : Prop where
  n0 : 1 ≤ b.ring.length
  n1 : b.ring.length ≤ 65536
  u0 : 0 ≤ b.una
  u1 : b.una ≤ b.fin
  u2 : b.fin ≤ 4611686018427387904
  u3 : b.fin - b.una ≤ b.ring.length
structure IsBuf (w : World) (g rb : Nat) (b : Buf) : Prop where
  box : Blk w g 111 (bcells rb b)
  ring : RowOf 5 1 encB w (slc rb b) b.ring
  ne : g ≠ rb
  ok : Ok b
def Same (w : World) (v : Value) (e : Ending) (w' : World) : Prop := e = .returned v ∧ w = w'
def Quiet (w : World) (v : Value) (e : Ending) (w' : World) : Prop := e = .returned v ∧ ∃ n, w' = w.drewN n
theorem IsBuf.below {w w' : World} {g rb : Nat} {b : Buf} (h : IsBuf w g rb b) (hb : Below w.heap.size w w') : IsBuf w' g rb b := ⟨h.box.below hb h.box.lt, h.ring.below hb, h.ne, h.ok⟩
theorem IsBuf.drewN {w : World} {g rb : Nat} {b : Buf} (h : IsBuf w g rb b) (n : Nat) : IsBuf (w.drewN n) g rb b := ⟨h.box, h.ring, h.ne, h.ok⟩
theorem una_none (w : World) : Calls Try.prog 46 #[.pointer none] w (Same w (.int .i64 0)) := by
  go_enter Try.func46, Try.ntmps46
  go_wp2
  go_ret
  exact ⟨rfl, rfl⟩
theorem una_calls (g rb : Nat) (b : Buf) (w : World) (h : IsBuf w g rb b) : Calls Try.prog 46 #[.pointer (some ⟨g, 0, none⟩)] w (Same w (.int .i64 b.una)) := by
  have c1 : w.cell? ⟨g, 1, Option.none⟩ = some (.int .i64 b.una) := h.box.cell 1
  go_enter Try.func46, Try.ntmps46
  go_wp2
  go_ret
  exact ⟨rfl, rfl⟩
theorem end_none (w : World) : Calls Try.prog 42 #[.pointer none] w (Same w (.int .i64 0)) := by
  go_enter Try.func42, Try.ntmps42
  go_wp2
  go_ret
  exact ⟨rfl, rfl⟩
theorem end_calls (g rb : Nat) (b : Buf) (w : World) (h : IsBuf w g rb b) : Calls Try.prog 42 #[.pointer (some ⟨g, 0, none⟩)] w (Same w (.int .i64 b.fin)) := by
  have c1 : w.cell? ⟨g, 2, Option.none⟩ = some (.int .i64 b.fin) := h.box.cell 2
  go_enter Try.func42, Try.ntmps42
  go_wp2
  go_ret
  exact ⟨rfl, rfl⟩
theorem room_none (w : World) : Calls Try.prog 47 #[.pointer none] w (Same w (.int .i64 0)) := by
  go_enter Try.func47, Try.ntmps47
  go_wp2
  go_ret
  exact ⟨rfl, rfl⟩
theorem room_calls (g rb : Nat) (b : Buf) (w : World) (h : IsBuf w g rb b) : Calls Try.prog 47 #[.pointer (some ⟨g, 0, none⟩)] w (Quiet w (.int .i64 (b.ring.length - (b.fin - b.una)))) := by
  have c0 : w.cell? ⟨g, 0, Option.none⟩ = some (.slice (some ⟨rb, 0, Option.none⟩) b.ring.length b.cap) := h.box.cell 0
  have c1 : w.cell? ⟨g, 1, Option.none⟩ = some (.int .i64 b.una) := h.box.cell 1
  have c2 : w.cell? ⟨g, 2, Option.none⟩ = some (.int .i64 b.fin) := h.box.cell 2
  obtain ⟨n0, n1, u0, u1, u2, u3⟩ := h.ok
  clear h
  obtain ⟨una, fin, ring, cap⟩ := b
  simp only at *
  generalize ring.length = n at *
  have s1 : IntKind.i64.wrap (fin - una) = fin - una := IntWalk.i64_in _ (by omega)
  have s2 : IntKind.i64.wrap ((n : Int) - (fin - una)) = (n : Int) - (fin - una) := IntWalk.i64_in _ (by omega)
  go_enter Try.func47, Try.ntmps47
  go_wp2
  go_quiet (fail)
  go_wp2
  go_ret
  exact ⟨rfl, _, rfl⟩
theorem free_none (t : Int) (w : World) : Calls Try.prog 39 #[.pointer none, .int .i64 t] w (Same w (.int .i64 1)) := by
  go_enter Try.func39, Try.ntmps39
  go_wp2
  go_ret
  exact ⟨rfl, rfl⟩
theorem free_old (g rb : Nat) (b : Buf) (t : Int) (w : World) (h : IsBuf w g rb b) (h1 : t < b.una) : Calls Try.prog 39 #[.pointer (some ⟨g, 0, none⟩), .int .i64 t] w (Same w (.int .i64 11)) := by
  have c1 : w.cell? ⟨g, 1, Option.none⟩ = some (.int .i64 b.una) := h.box.cell 1
  clear h
  go_enter Try.func39, Try.ntmps39
  go_wp2
  go_ret
  exact ⟨rfl, rfl⟩
theorem free_ahead (g rb : Nat) (b : Buf) (t : Int) (w : World) (h : IsBuf w g rb b) (h1 : b.una ≤ t) (h2 : b.fin < t) : Calls Try.prog 39 #[.pointer (some ⟨g, 0, none⟩), .int .i64 t] w (Same w (.int .i64 12)) := by
  have c1 : w.cell? ⟨g, 1, Option.none⟩ = some (.int .i64 b.una) := h.box.cell 1
  have c2 : w.cell? ⟨g, 2, Option.none⟩ = some (.int .i64 b.fin) := h.box.cell 2
  clear h
  go_enter Try.func39, Try.ntmps39
  go_wp2
  go_ret
  exact ⟨rfl, rfl⟩
/-- A buffer has turned. -/
def Turns (w : World) (g rb : Nat) (b' : Buf) (r : Value) (e : Ending) (w' : World) : Prop := e = .returned r ∧ IsBuf w' g rb b' ∧ Kept w w' g (slc rb b')
theorem free_ok (g rb : Nat) (b : Buf) (t : Int) (w : World) (h : IsBuf w g rb b) (h1 : b.una ≤ t) (h2 : t ≤ b.fin) : Calls Try.prog 39 #[.pointer (some ⟨g, 0, none⟩), .int .i64 t] w (Turns w g rb ⟨t, b.fin, b.ring, b.cap⟩ (.int .i64 0)) := by
  have c1 : w.cell? ⟨g, 1, Option.none⟩ = some (.int .i64 b.una) := h.box.cell 1
  have c2 : w.cell? ⟨g, 2, Option.none⟩ = some (.int .i64 b.fin) := h.box.cell 2
  have fz := h.box.frozen
  have H := Lib.hid h
  clear h
  go_enter Try.func39, Try.ntmps39
  go_wp2
  go_ret
  have hk := H.out.ok
  refine ⟨rfl, ⟨(H.out.box.set_ 1 _).eq (by simp [bcells, slc]), H.out.ring.same (fun k e => Below.heap_setCell _ _ _ k (fun e2 => by have e3 : rb = k := (by simpa [slc, Value.ownBlock] using e); exact H.out.ne (e2.symm.trans e3.symm))), H.out.ne, ⟨hk.n0, hk.n1, by have := hk.u0; simp only; omega, h2, hk.u2, by have := hk.u3; simp only at *; omega⟩⟩, kept_set (kept_refl _ _ _) _ _⟩
/-- A buffer of the call's own. -/
def News (w : World) (b : Buf) (e : Ending) (w' : World) : Prop := ∃ g rb, e = .returned (.tuple #[.pointer (some ⟨g, 0, none⟩), .int .i64 0]) ∧ IsBuf w' g rb b ∧ w.heap.size ≤ g ∧ w.heap.size ≤ rb ∧ Below w.heap.size w w'
theorem new_err (una most : Int) (w : World) (h : una < 0 ∨ 4611686018427387904 < una ∨ most < 1 ∨ 65536 < most) : Calls Try.prog 37 #[.int .i64 una, .int .i64 most] w (Same w (.tuple #[.pointer none, .int .i64 2])) := by
  have cases : una < 0 ∨ (¬ una < 0 ∧ 4611686018427387904 < una) ∨ (¬ una < 0 ∧ ¬ 4611686018427387904 < una ∧ most < 1) ∨ (¬ una < 0 ∧ ¬ 4611686018427387904 < una ∧ ¬ most < 1 ∧ 65536 < most) := by omega
  clear h
  rcases cases with h1 | ⟨h1, h2⟩ | ⟨h1, h2, h3⟩ | ⟨h1, h2, h3, h4⟩
  all_goals
    go_enter Try.func37, Try.ntmps37
    go_wp2
    go_ret2
    exact ⟨rfl, rfl⟩
theorem rep_flat (n : Nat) : (List.replicate n (0 : Int)).flatMap encB = List.replicate n (Value.int .u8 0) := by
  induction n with
  | zero => rfl
  | succ n ih => rw [List.replicate_succ, List.replicate_succ, List.flatMap_cons, ih]; rfl
theorem info5 : (Try.prog.info? 5).map (fun i => (i.zero, i.size, i.bytes)) = some (some (.int .u8 0), 1, 1) := by kernel_rfl
set_option maxRecDepth 100000 in
theorem new_calls (una : Int) (n : Nat) (w : World) (h1 : 0 ≤ una) (h2 : una ≤ 4611686018427387904) (h3 : 1 ≤ n) (h4 : n ≤ 65536) : Calls Try.prog 37 #[.int .i64 una, .int .i64 n] w (News w ⟨una, una, List.replicate n 0, n⟩) := by
  have k1 : (1 : Int) ≤ (n : Int) := by omega
  have k2 : (n : Int) ≤ 65536 := by omega
  obtain ⟨i0, hi, hz0, hz1, hz2⟩ := info_parts info5
  go_enter Try.func37, Try.ntmps37
  go_wp2_with (refine wpList_make_full _ rfl (.tmp 20) (.tmp 20) 60 rfl w.heap.size 5 i0 (.int .u8 0) 1 Try.underlying60 hi hz0 hz1 .i64 .i64 n n n rfl rfl rfl rfl (by rw [hz2]; omega) (by unfold maxLen; omega) (Nat.le_refl _) ?_; intro w1 hown hgrow)
  have HO := Lib.hid hown
  have HG := Lib.hid hgrow
  clear hown hgrow
  go_ret2
  have hb1 : Below w.heap.size w w1 := ⟨HG.out.os, HG.out.tape, HG.out.output, HG.out.size, fun k hk => HG.out.block k hk (by simp)⟩
  obtain ⟨_, ⟨he, _⟩ | ⟨g, cap, cur, he, q1, q2, q3, q4, q5, q6⟩⟩ := HO.out
  · cases he
  · injection he with e1 e2 e3
    obtain rfl : w.heap.size = g := by simpa using e1
    subst e3
    have hrow : RowOf 5 1 encB w1 (.slice (some ⟨w.heap.size, 0, Option.none⟩) n n) (List.replicate n 0) := .inr ⟨_, n, cur, by simp, by simp, by omega, q2, by omega, by
      rw [List.length_replicate, q6, show (Value.int IntKind.u8 0).cells = #[Value.int .u8 0] from rfl, toList_madeCells_one, Nat.mul_one]
      rw [rep_flat]⟩
    have hlt : w.heap.size < w1.heap.size := Blk.lt q2
    refine ⟨w1.heap.size, w.heap.size, rfl, ⟨(Blk.new w1 111 _).eq (by simp [bcells, slc]), ?_, by omega, ⟨by simpa using h3, by simpa using h4, h1, Int.le_refl _, h2, by simp⟩⟩, hb1.size, Nat.le_refl _, hb1.alloc hb1.size _⟩
    have : slc w.heap.size ⟨una, una, List.replicate n 0, n⟩ = .slice (some ⟨w.heap.size, 0, Option.none⟩) n n := by simp [slc]
    rw [this]
    exact hrow.same fun k hk => Below.heap_alloc w1 _ k (by
      have : w.heap.size = k := by simpa [Value.ownBlock] using hk
      omega)
/-- A piece of a ring: k bytes from o on, with no room behind them. -/
def piece (rb o k : Nat) : Value := .slice (if k = 0 then some ⟨rb, 0, Option.none⟩ else some ⟨rb, o, Option.none⟩) k k
theorem run_piece (rb N c : Nat) (o k : Int) (w : World) (h0 : 0 ≤ o) (h1 : 0 ≤ k) (h2 : o + k ≤ c) :
    (Instr.slice 60 (.slice (some ⟨rb, 0, Option.none⟩) N c) (some (.int .i64 o)) (some (.int .i64 (o + k))) (some (.int .i64 (o + k)))).run Try.prog w = .ok (piece rb o.toNat k.toNat) w := by
  rw [run_slice_lhm (P := Try.prog) w 60 _ N c (by kernel_rfl) .i64 .i64 .i64 o (o + k) (o + k) h0 (by omega) (Int.le_refl _) h2]
  have he : Try.prog.elem 60 = 5 := by kernel_rfl
  have e1 : (o + k).toNat = o.toNat + k.toNat := by omega
  rcases Int.lt_or_eq_of_le h1 with hk | hk
  · have f1 : ¬ k.toNat = 0 := by omega
    have f2 : ¬ k = 0 := by omega
    have f3 : ¬ k ≤ 0 := by omega
    simp [he, sliced, piece, go_sem, e1, Addr.add, f1, f2, f3]
    omega
  · subst hk
    simp [he, sliced, piece, go_sem, e1, Addr.add]
theorem run_piece0 (rb N c : Nat) (k : Int) (w : World) (h1 : 0 ≤ k) (h2 : k ≤ c) :
    (Instr.slice 60 (.slice (some ⟨rb, 0, Option.none⟩) N c) (some (.int .i64 0)) (some (.int .i64 k)) (some (.int .i64 k))).run Try.prog w = .ok (piece rb 0 k.toNat) w := by
  have := run_piece rb N c 0 k w (Int.le_refl _) h1 (by omega)
  rw [Int.zero_add] at this
  exact this
attribute [local go_sem high] run_piece run_piece0
theorem IsBuf.fits {w : World} {g rb : Nat} {b : Buf} (h : IsBuf w g rb b) : b.ring.length ≤ b.cap := by
  obtain ⟨A, c, e, hc⟩ := h.ring.slice
  injection e with _ _ e3
  omega
/-- Where an offset stands, and how many of n bytes stand up to the ring's end. -/
def at_ (b : Buf) (off : Int) : Nat := (off % b.ring.length).toNat
def upto_ (b : Buf) (off : Int) (n : Nat) : Nat := min n (b.ring.length - at_ b off)
theorem at_lt {b : Buf} (h : Ok b) (off : Int) : at_ b off < b.ring.length := by
  have h0 := h.n0
  have h1 := Int.emod_lt_of_pos off (show 0 < (b.ring.length : Int) by omega)
  have h2 := Int.emod_nonneg off (show (b.ring.length : Int) ≠ 0 by omega)
  unfold at_
  omega
set_option maxRecDepth 100000 in
theorem pieces_calls (g rb : Nat) (b : Buf) (off : Int) (n : Nat) (w : World) (h : IsBuf w g rb b) (h0 : 0 ≤ off) (hn : n ≤ b.ring.length) :
    Calls Try.prog 68 #[.pointer (some ⟨g, 0, none⟩), .int .i64 off, .int .i64 n] w (Quiet w (.tuple #[piece rb (at_ b off) (upto_ b off n), piece rb 0 (n - upto_ b off n)])) := by
  have c0 : w.cell? ⟨g, 0, Option.none⟩ = some (.slice (some ⟨rb, 0, Option.none⟩) b.ring.length b.cap) := h.box.cell 0
  have hlt := at_lt h.ok off
  have hfit := h.fits
  have hn0 := h.ok.n0
  have hn1 := h.ok.n1
  have e1 : off % (b.ring.length : Int) = (at_ b off : Int) := by
    have := Int.emod_nonneg off (show (b.ring.length : Int) ≠ 0 by omega)
    unfold at_
    omega
  have hu : upto_ b off n = min n (b.ring.length - at_ b off) := rfl
  generalize upto_ b off n = k at *
  generalize at_ b off = a at *
  generalize b.ring.length = N at *
  generalize b.cap = cp at *
  clear h
  have e2 : min (n : Int) ((N : Int) - (a : Int)) = (k : Int) := by omega
  have k0 : (0 : Int) ≤ (a : Int) := by omega
  have k1 : (0 : Int) ≤ (k : Int) := by omega
  have k2 : (a : Int) + (k : Int) ≤ (cp : Int) := by omega
  have k3 : (0 : Int) ≤ (n : Int) - (k : Int) := by omega
  have k4 : (n : Int) - (k : Int) ≤ (cp : Int) := by omega
  have k6 : (n : Int) ≤ (N : Int) := by omega
  have k7 : (a : Int) < (N : Int) := by omega
  have k5 : ((n : Int) - (k : Int)).toNat = n - k := by omega
  have w1 : IntKind.i64.wrap ((a : Int) + (k : Int)) = (a : Int) + (k : Int) := IntWalk.i64_in _ (by omega)
  have w2 : IntKind.i64.wrap ((n : Int) - (k : Int)) = (n : Int) - (k : Int) := IntWalk.i64_in _ (by omega)
  have HU := Lib.hid hu
  clear hu
  have p0 : piece rb 0 (n - k) = .slice (some ⟨rb, 0, Option.none⟩) (n - k) (n - k) := by unfold piece; split <;> rfl
  rw [p0]
  go_enter Try.func68, Try.ntmps68
  go_wp2
  go_quiet (fail)
  go_wp2
  go_ret2
  exact ⟨rfl, _, rfl⟩
end Go.Proofs.Ytaokiocpfpdmkaa.Buff
