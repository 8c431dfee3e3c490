/- Chapter 06: a span's pieces: the iterator (Cut), and what its pieces are. -/
import Derived.Test.YtfbjmaajdblbfaaSpanC
import Derived.Test.YtfbjmaajdblbfaaRound
import Derived.RangeFuncNested
import Derived.RangeFuncBound
import Derived.RangeFuncCalls
import Derived.RangeFuncLeaves
import Derived.Shelf.Abstract
import Derived.Shelf.RegionOpen
import Derived.WalkKit
import Derived.OwnWalkIn
import Derived.TacticsInMore
import Derived.LoopNIn
import Derived.LoopIn
import Derived.Lib.Hide
namespace Go.Proofs.Ytfbjmaajdblbfaa.Spans
open Go.RowKit Go.Shelf Go.Proofs.Ytfbjmaajdblbfaa.Aid
attribute [local go_sem] Oper.semAt_some
/-- A piece, as it may come of a span that ends at hi, in pieces of the size z. -/
abbrev Piece (hi z : Int) := { x : Span // 0 ≤ x.lo ∧ x.lo < x.hi ∧ x.hi ≤ hi ∧ hi ≤ 4611686018427387904 ∧ (x.hi = hi ∨ x.hi - x.lo = z) ∧ x.hi - x.lo ≤ z }
/-- Pieces, one behind the other. -/
def Chain {hi z : Int} (lo : Int) : List (Piece hi z) → Prop
  | [] => True
  | x :: r => x.1.lo = lo ∧ Chain x.1.hi r
def endOf {hi z : Int} (lo : Int) : List (Piece hi z) → Int
  | [] => lo
  | x :: r => endOf x.1.hi r
def Whole {hi z : Int} (lo : Int) (ys : List (Piece hi z)) : Prop := (0 < z → endOf lo ys = hi) ∧ (¬ 0 < z → ys = [])
theorem chain_snoc {hi z : Int} (x : Piece hi z) : ∀ (pre : List (Piece hi z)) (lo : Int), Chain lo (pre ++ [x]) ↔ Chain lo pre ∧ x.1.lo = endOf lo pre
  | [], lo => by simp [Chain, endOf]
  | y :: r, lo => by simp [Chain, endOf, chain_snoc x r y.1.hi, and_assoc]
theorem end_snoc {hi z : Int} (x : Piece hi z) : ∀ (pre : List (Piece hi z)) (lo : Int), endOf lo (pre ++ [x]) = x.1.hi
  | [], lo => rfl
  | y :: r, lo => by simpa [endOf] using end_snoc x r y.1.hi
theorem chain_len {hi z : Int} : ∀ (pre : List (Piece hi z)) (lo : Int), Chain lo pre → (pre.length : Int) ≤ endOf lo pre - lo
  | [], lo, _ => by simp [endOf]
  | y :: r, lo, h => by
    obtain ⟨h1, h2⟩ := h
    have := chain_len r y.1.hi h2
    have := y.2.2.1
    simp only [endOf, List.length_cons]
    omega
/-- A round keeps the iterator's own blocks. -/
def Keep2 (b0 b1 : Nat) (W W' : World) : Prop := W'.heap[b0]? = W.heap[b0]? ∧ W'.heap[b1]? = W.heap[b1]?
theorem cut_in (F : Fence) (n : Nat) (hF : F = Fence.wide) (s : Span) (z : Int) (w : World) :
    CallsIn F n Try.prog 26 #[.agg #[.int .i64 s.lo, .int .i64 s.hi], .int .i64 z] w fun e w' => e = .returned (.func (.func 53) #[] #[.pointer (some ⟨w.heap.size, 0, Option.none⟩), .pointer (some ⟨w.heap.size + 1, 0, Option.none⟩)]) ∧
      Blk w' w.heap.size 23 #[.int .i64 (plain s).lo, .int .i64 (plain s).hi] ∧ Blk w' (w.heap.size + 1) 3 #[.int .i64 z] ∧ Below w.heap.size w w' := by
  subst hF
  have P := Lib.hid (plain_calls s)
  have e0 : ∀ W : World, W.heap.size = w.heap.size + 1 + 1 → w.heap.size + 1 < W.heap.size := by intro W h; omega
  refine callsIn_wide.2 ?_
  have X0 : Blk ((w.alloc (.cells #[.int .i64 s.lo, .int .i64 s.hi] 23)).alloc (.cells #[.int .i64 z] 3)) w.heap.size 23 #[.int .i64 s.lo, .int .i64 s.hi] := (Blk.new w 23 _).alloc _
  have X1 : Blk ((w.alloc (.cells #[.int .i64 s.lo, .int .i64 s.hi] 23)).alloc (.cells #[.int .i64 z] 3)) (w.heap.size + 1) 3 #[.int .i64 z] := by
    have := Blk.new (w.alloc (.cells #[.int .i64 s.lo, .int .i64 s.hi] 23)) 3 #[.int .i64 z]
    simpa using this
  have X0 := Lib.hid X0
  have X1 := Lib.hid X1
  have B2 := Lib.hid (show Below w.heap.size w ((w.alloc (.cells #[.int .i64 s.lo, .int .i64 s.hi] 23)).alloc (.cells #[.int .i64 z] 3)) from ((Below.refl _ w).alloc (Nat.le_refl _) _).alloc (by simp) _)
  clear e0
  go_enter Try.func26, Try.ntmps26
  go_wp2_with fail
  refine (P.out _).mono ?_
  rintro e w1 ⟨rfl, b1⟩
  have Y0 := Lib.hid (X0.out.below b1 X0.out.lt)
  have Y1 := Lib.hid (X1.out.below b1 X1.out.lt)
  have B1 := Lib.hid (below_then B2.out B2.out.size b1)
  have c0 := Y0.out.cell 0
  have c1 := Y0.out.cell 1
  have fz := Y0.out.frozen
  simp at c0 c1
  clear b1 X0 X1 B2 P
  go_wp2
  go_ret
  refine ⟨rfl, ((Y0.out.set_ 0 _).set_ 1 _).eq (by simp), (Y1.out.far (by simp) _).far (by simp) _, (B1.out.setCell (by simp) _).setCell (by simp) _⟩
set_option maxRecDepth 100000 in
set_option maxHeartbeats 4000000 in
theorem cut1_in (F : Fence) (n : Nat) (h53 : F.fn 53) (hro : F.round = Option.none) (hn : 1 ≤ n) (l b0 b1 : Nat) (lo hi z : Int) (hp : 0 ≤ lo ∧ lo ≤ hi ∧ hi ≤ 4611686018427387904) (J Jx : List (Piece hi z) → World → Prop)
    (hY : ∀ pre (x : Piece hi z) W, J pre W → pre.length < (hi - lo).toNat + 1 → YieldAt F (n - 1) Try.prog l #[.agg #[.int .i64 x.1.lo, .int .i64 x.1.hi]] W fun e W' =>
      (e = .returned (.bool true) ∧ J (pre ++ [x]) W' ∧ Keep2 b0 b1 W W') ∨ (e = .returned (.bool false) ∧ Jx (pre ++ [x]) W'))
    (W : World) (hX0 : Blk W b0 23 #[.int .i64 lo, .int .i64 hi]) (hX1 : Blk W b1 3 #[.int .i64 z]) (h0 : J [] W) :
    CallsIn F n Try.prog 53 #[.func (.yield l) #[] #[], .pointer (some ⟨b0, 0, Option.none⟩), .pointer (some ⟨b1, 0, Option.none⟩)] W fun e W' => (∃ v, e = .returned v) ∧
      ((∃ ys : List (Piece hi z), (Chain lo ys ∧ Whole lo ys) ∧ J ys W') ∨ (∃ pre, Chain lo pre ∧ Jx pre W')) := by
  have HY := Lib.hid hY
  have HJ0 := Lib.hid h0
  have HX := Lib.hid (And.intro hX0 hX1)
  have x0 := hX0.cell 0
  have x1 := hX0.cell 1
  have z0 := hX1.cell 0
  simp at x0 x1 z0
  obtain ⟨p0, p1, p2⟩ := hp
  clear hY h0 hX0 hX1
  refine callsIn_of_wp Try.func53 rfl h53 ?_ hro
  simp only [Try.ntmps53, List.size_toArray, List.length_cons, List.length_nil, Nat.reduceAdd, Nat.reduceSub, Array.replicate_succ, Array.replicate_zero, List.push_toArray, List.append_toArray, List.nil_append, List.cons_append]
  gi_wp2
  clear x0 x1 z0
  gi_loopw [4] (fun i wr => ∃ (pre : List (Piece hi z)) (at_ : Int), i = .int .i64 at_ ∧ Hid (at_ = endOf lo pre) ∧ lo ≤ at_ ∧ at_ ≤ hi ∧ Hid (Chain lo pre ∧ (0 < z ∨ pre = [])) ∧ Hid (J pre wr) ∧ Hid (Blk wr b0 23 #[.int .i64 lo, .int .i64 hi] ∧ Blk wr b1 3 #[.int .i64 z])) (fun i _ => (hi - intOf i).toNat)
  case atStart => exact ⟨[], lo, rfl, Lib.hid rfl, by omega, by omega, Lib.hid ⟨trivial, .inr rfl⟩, HJ0, HX⟩
  case round =>
    obtain ⟨pre, at_, rfl, hat, ha0, ha1, hC, hJ, hX⟩ := hrel
    have x0 := hX.out.1.cell 0
    have x1 := hX.out.1.cell 1
    have z0 := hX.out.2.cell 0
    simp at x0 x1 z0
    by_cases hz : 0 < z
    · by_cases hlt : at_ < hi
      · by_cases hbig : z < hi - at_
        · have hpl : pre.length < (hi - lo).toNat + 1 := by
            have := chain_len pre lo hC.out.1
            rw [← hat.out] at this
            omega
          obtain ⟨fn, tmps, assign, body, hy, hR⟩ := HY.out pre ⟨⟨at_, at_ + z⟩, by refine ⟨by simp only; omega, by simp only; omega, by simp only; omega, p2, .inr (by simp only; omega), by simp only; omega⟩⟩ wr hJ.out hpl
          dsimp only at hy
          have HR := Lib.hid hR
          clear hR
          gi_wp2
          refine HR.out.mono ?_
          rintro e W3 (⟨rfl, hJ3, hk3⟩ | ⟨rfl, hJx3⟩)
          · have X3 := Lib.hid (And.intro (show Blk W3 b0 23 _ from hk3.1.trans hX.out.1) (show Blk W3 b1 3 _ from hk3.2.trans hX.out.2))
            gi_wp2
            go_roundw
            case rel => exact ⟨_, at_ + z, rfl, Lib.hid (by rw [end_snoc]), by omega, by omega, Lib.hid ⟨(chain_snoc _ pre lo).2 ⟨hC.out.1, hat.out⟩, .inl hz⟩, Lib.hid hJ3, X3⟩
            case measure => simp [intOf]; omega
          · gi_wp2
            refine bodyPost_ret (results_none rfl _ _ _) rfl ?_
            exact ⟨⟨_, rfl⟩, .inr ⟨_, (chain_snoc _ pre lo).2 ⟨hC.out.1, hat.out⟩, hJx3⟩⟩
        · have hpl : pre.length < (hi - lo).toNat + 1 := by
            have := chain_len pre lo hC.out.1
            rw [← hat.out] at this
            omega
          obtain ⟨fn, tmps, assign, body, hy, hR⟩ := HY.out pre ⟨⟨at_, hi⟩, by refine ⟨by simp only; omega, by simp only; omega, by simp only; omega, p2, .inl rfl, by simp only; omega⟩⟩ wr hJ.out hpl
          dsimp only at hy
          have HR := Lib.hid hR
          clear hR
          gi_wp2
          refine HR.out.mono ?_
          rintro e W3 (⟨rfl, hJ3, hk3⟩ | ⟨rfl, hJx3⟩)
          · have X3 := Lib.hid (And.intro (show Blk W3 b0 23 _ from hk3.1.trans hX.out.1) (show Blk W3 b1 3 _ from hk3.2.trans hX.out.2))
            gi_wp2
            go_roundw
            case rel => exact ⟨_, hi, rfl, Lib.hid (by rw [end_snoc]), by omega, by omega, Lib.hid ⟨(chain_snoc _ pre lo).2 ⟨hC.out.1, hat.out⟩, .inl hz⟩, Lib.hid hJ3, X3⟩
            case measure => simp [intOf]; omega
          · gi_wp2
            refine bodyPost_ret (results_none rfl _ _ _) rfl ?_
            exact ⟨⟨_, rfl⟩, .inr ⟨_, (chain_snoc _ pre lo).2 ⟨hC.out.1, hat.out⟩, hJx3⟩⟩
      · have hend : at_ = hi := by omega
        gi_wp2
        go_end0
        exact ⟨⟨_, rfl⟩, .inl ⟨pre, ⟨hC.out.1, fun _ => hat.out.symm.trans hend, fun h => absurd hz h⟩, hJ.out⟩⟩
    · have hnil : pre = [] := hC.out.2.resolve_left hz
      have HN := Lib.hid hnil
      clear hnil
      gi_wp2
      go_end0
      exact ⟨⟨_, rfl⟩, .inl ⟨pre, ⟨hC.out.1, fun h => absurd h (by omega), fun _ => HN.out⟩, hJ.out⟩⟩
theorem keep2_t {b0 b1 : Nat} {A B C : World} (h : Keep2 b0 b1 A B) (k : Keep2 b0 b1 B C) : Keep2 b0 b1 A C := ⟨k.1.trans h.1, k.2.trans h.2⟩
theorem keep2_b {b0 b1 : Nat} {w : World} (h0 : b0 < w.heap.size) (h1 : b1 < w.heap.size) (W : World) (l : Nat) (o o' : Obj) (hl : w.heap.size ≤ l) (h : W.heap[l]? = some o) (_ : o.isCells = false) (_ : o.isWalk = false) : Keep2 b0 b1 W (W.putObj l o') := by
  have hg := grownBy_putObj' W l o'
  have hl2 := (Array.getElem?_eq_some_iff.1 h).1
  exact ⟨hg.block b0 (by omega) (fun e => by cases e; omega), hg.block b1 (by omega) (fun e => by cases e; omega)⟩
theorem cut_stops (F : Fence) (n : Nat) (h53 : F.fn 53) (hro : F.round = Option.none) (hn : 1 ≤ n) (b0 b1 : Nat) (lo hi z : Int) (hp : 0 ≤ lo ∧ lo ≤ hi ∧ hi ≤ 4611686018427387904) (w : World) (hX0 : Blk w b0 23 #[.int .i64 lo, .int .i64 hi]) (hX1 : Blk w b1 3 #[.int .i64 z]) :
    SeqStopsK F n Try.prog 53 #[.pointer (some ⟨b0, 0, Option.none⟩), .pointer (some ⟨b1, 0, Option.none⟩)] (fun x : Piece hi z => #[Value.agg #[.int .i64 x.1.lo, .int .i64 x.1.hi]]) (Keep2 b0 b1) (fun ys => Chain lo ys ∧ Whole lo ys) (fun pre => Chain lo pre) ((hi - lo).toNat + 1) w := fun l J Jx W hW _ _ hY h0 =>
  cut1_in F n h53 hro hn l b0 b1 lo hi z hp J Jx hY W (hX0.below hW hX0.lt) (hX1.below hW hX1.lt) h0
/-- A block of cells abides the turn of whatever is no cells. -/
theorem blk_own {X Y : World} {g : Nat} {t : TypeId} {cs : Array Value} {row : Option Nat} (h : Blk X g t cs) (hg : X.grownBy Y row) (hr : ∀ r, row = some r → ∃ o : Obj, X.heap[r]? = some o ∧ o.isCells = false) : Blk Y g t cs :=
  (hg.block g h.lt (fun e => by
    obtain ⟨o, ho, hc⟩ := hr g e.symm
    rw [show X.heap[g]? = _ from h] at ho
    cases ho
    cases hc)).trans h
end Go.Proofs.Ytfbjmaajdblbfaa.Spans
