/- Chapter 10 (dup): what an acknowledgement tells: the program's Look. -/
import Derived.Test.YtaokiocpfpdmkaaTwice
import Derived.Test.YtaokiocpfpdmkaaLedPair
import Derived.Deep.DeepCutAuto
set_option linter.unusedSimpArgs false
set_option linter.unusedVariables false
attribute [local go_sem ↓] Go.wp_at_zero Go.wp_at_succ
namespace Go.Proofs.Ytaokiocpfpdmkaa.Dups
open Go.BigFrame Go.RowKit Go.OpenShut Go.Proofs.Ytaokiocpfpdmkaa.Aid Go.Proofs.Ytaokiocpfpdmkaa.Spans
open Led (encS encS_len encS_one info26 row_alloc row_drew src_one)
structure Told where
  ack : Int
  isDup : Bool
  dup : Span
  sacks : List Span
  bad : Nat
deriving Inhabited
def cellsT (t : Told) (sv : Value) : Array Value := #[.int .i64 t.ack, .bool t.isDup, .int .i64 t.dup.lo, .int .i64 t.dup.hi, sv, .int .i64 t.bad]
def zero : Told := ⟨0, false, ⟨0, 0⟩, [], 0⟩
/-- Is a block one of the Sacks? -/
def good (ack nxt : Int) (b : Block) : Bool := isF ack b && (decide (ack < (fsp ack b).lo) && decide ((fsp ack b).hi ≤ nxt))
def sacksOf (ack nxt : Int) (l : List Block) : List Span := (l.filter (good ack nxt)).map (fsp ack)
def badOf (ack nxt : Int) (l : List Block) : Nat := (l.filter fun b => !good ack nxt b).length
def rest (ack nxt : Int) (l : List Block) : List Block := if isT ack nxt l = true then l.tail else l
def tells (ack nxt : Int) (l : List Block) : Told := ⟨ack, isT ack nxt l, tsp ack nxt l, sacksOf ack nxt (rest ack nxt l), badOf ack nxt (rest ack nxt l)⟩
def look (una nxt num : Int) (l : List Block) : Told × Int :=
  if una < 0 ∨ 4611686018427387904 < nxt ∨ nxt < una ∨ 65536 < nxt - una then (zero, 3)
  else if unw una num < 0 ∨ 65536 < una - unw una num then (zero, 11)
  else if nxt < unw una num then (zero, 12) else (tells (unw una num) nxt l, 0)
theorem sacks_snoc (ack nxt : Int) (l : List Block) (b : Block) : sacksOf ack nxt (l ++ [b]) = if good ack nxt b = true then sacksOf ack nxt l ++ [fsp ack b] else sacksOf ack nxt l := by
  unfold sacksOf
  rw [List.filter_append]
  by_cases h : good ack nxt b = true <;> simp [h]
theorem bad_snoc (ack nxt : Int) (l : List Block) (b : Block) : badOf ack nxt (l ++ [b]) = if good ack nxt b = true then badOf ack nxt l else badOf ack nxt l + 1 := by
  unfold badOf
  rw [List.filter_append]
  by_cases h : good ack nxt b = true <;> simp [h]
theorem sacks_len (ack nxt : Int) (l : List Block) : (sacksOf ack nxt l).length + badOf ack nxt l = l.length := by
  unfold sacksOf badOf
  rw [List.length_map]
  induction l with
  | nil => rfl
  | cons b l ih => by_cases h : good ack nxt b = true <;> simp [h] <;> omega
/-- What Look returns, in memory. -/
def Tells (w : World) (r : Told × Int) (e : Ending) (w' : World) : Prop :=
  ∃ A n c, e = .returned (.tuple #[.agg (cellsT r.1 (.slice A n c)), .int .i64 r.2]) ∧ RowOf 26 2 encS w' (.slice A n c) r.1.sacks ∧ (∀ b, (Value.slice A n c).ownBlock = some b → w.heap.size ≤ b) ∧ Below w.heap.size w w'
/-- While it is told: the result's box, the answer's, and its Sacks. -/
structure Out (ty : TypeId) (w W : World) (g h : Nat) (t : Told) (sv : Value) : Prop where
  res : Blk W g ty (cellsT zero (.slice Option.none 0 0))
  out : Blk W h ty (cellsT t sv)
  row : RowOf 26 2 encS W sv t.sacks
  own : ∀ b, sv.ownBlock = some b → w.heap.size ≤ b ∧ b ≠ g ∧ b ≠ h
  bel : Below w.heap.size w W
  gg : w.heap.size ≤ g
  hh : w.heap.size ≤ h
  gh : g ≠ h
section
variable {ty : TypeId} {w W W' : World} {g h : Nat} {t t' : Told} {sv sv' : Value}
theorem Out.below (H : Out ty w W g h t sv) (hb : Below W.heap.size W W') : Out ty w W' g h t sv :=
  ⟨H.res.below hb H.res.lt, H.out.below hb H.out.lt, H.row.below hb, H.own, below_then H.bel H.bel.size hb, H.gg, H.hh, H.gh⟩
/-- One of the answer's cells is put. -/
theorem Out.put (H : Out ty w W g h t sv) (i : Nat) (v : Value) (hc : (cellsT t sv).setIfInBounds i v = cellsT t' sv) (hs : t'.sacks = t.sacks) : Out ty w (W.setCell ⟨h, i, Option.none⟩ v) g h t' sv :=
  ⟨H.res.far H.gh v, (H.out.set_ i v).eq hc, hs ▸ H.row.same fun k e => Below.heap_setCell W _ v k (H.own k e).2.2, H.own, H.bel.setCell H.hh v, H.gg, H.hh, H.gh⟩
/-- The Sacks are appended to, and stored back. -/
theorem Out.app (H : Out ty w W g h t sv) (hr : RowOf 26 2 encS W' sv' t'.sacks) (ha : App W W' sv sv') (hc : (cellsT t sv).setIfInBounds 4 sv' = cellsT t' sv') :
    Out ty w (W'.setCell ⟨h, 4, Option.none⟩ sv') g h t' sv' := by
  have hg := H.res.lt
  have hh := H.out.lt
  have hs := H.bel.size
  have ho : ∀ b, sv'.ownBlock = some b → w.heap.size ≤ b ∧ b ≠ g ∧ b ≠ h := fun b e => by
    rcases ha.own b e with h1 | h1
    · exact H.own b h1
    · exact ⟨by omega, by omega, by omega⟩
  have b1 : Blk W' g ty _ := (ha.block g hg fun e => (H.own g e).2.1 rfl).trans H.res
  have b2 : Blk W' h ty _ := (ha.block h hh fun e => (H.own h e).2.2 rfl).trans H.out
  refine ⟨b1.far H.gh _, (b2.set_ 4 sv').eq hc, hr.same fun k e => Below.heap_setCell W' _ sv' k (ho k e).2.2, ho, ?_, H.gg, H.hh, H.gh⟩
  exact Below.setCell ⟨ha.os.trans H.bel.os, ha.tape.trans H.bel.tape, ha.output.trans H.bel.output, Nat.le_trans hs ha.size, fun k hk => (ha.block k (by omega) (fun e => by have := (H.own k e).1; omega)).trans (H.bel.block k hk)⟩ H.hh sv'
end
/-- The answer is stored as the result. -/
theorem Out.done {ty : TypeId} {w W : World} {g h : Nat} {t : Told} {sv : Value} (H : Out ty w W g h t sv) :
    Blk ((((((W.setCell ⟨g, 0, Option.none⟩ (.int .i64 t.ack)).setCell ⟨g, 1, Option.none⟩ (.bool t.isDup)).setCell ⟨g, 2, Option.none⟩ (.int .i64 t.dup.lo)).setCell ⟨g, 3, Option.none⟩ (.int .i64 t.dup.hi)).setCell ⟨g, 4, Option.none⟩ sv).setCell ⟨g, 5, Option.none⟩ (.int .i64 t.bad)) g ty (cellsT t sv) ∧
    RowOf 26 2 encS ((((((W.setCell ⟨g, 0, Option.none⟩ (.int .i64 t.ack)).setCell ⟨g, 1, Option.none⟩ (.bool t.isDup)).setCell ⟨g, 2, Option.none⟩ (.int .i64 t.dup.lo)).setCell ⟨g, 3, Option.none⟩ (.int .i64 t.dup.hi)).setCell ⟨g, 4, Option.none⟩ sv).setCell ⟨g, 5, Option.none⟩ (.int .i64 t.bad)) sv t.sacks ∧
    Below w.heap.size w ((((((W.setCell ⟨g, 0, Option.none⟩ (.int .i64 t.ack)).setCell ⟨g, 1, Option.none⟩ (.bool t.isDup)).setCell ⟨g, 2, Option.none⟩ (.int .i64 t.dup.lo)).setCell ⟨g, 3, Option.none⟩ (.int .i64 t.dup.hi)).setCell ⟨g, 4, Option.none⟩ sv).setCell ⟨g, 5, Option.none⟩ (.int .i64 t.bad)) := by
  refine ⟨((((((H.res.set_ 0 _).set_ 1 _).set_ 2 _).set_ 3 _).set_ 4 _).set_ 5 _).eq (by simp [cellsT]), H.row.same fun k e => ?_, (((((H.bel.setCell H.gg _).setCell H.gg _).setCell H.gg _).setCell H.gg _).setCell H.gg _).setCell H.gg _⟩
  have hk := (H.own k e).2.1
  exact (Below.heap_setCell _ _ _ k hk).trans ((Below.heap_setCell _ _ _ k hk).trans ((Below.heap_setCell _ _ _ k hk).trans ((Below.heap_setCell _ _ _ k hk).trans ((Below.heap_setCell _ _ _ k hk).trans (Below.heap_setCell _ _ _ k hk)))))
theorem look_err (una nxt num : Int) (A : Option Addr) (c : Nat) (l : List Block) (w : World) (h : una < 0 ∨ 4611686018427387904 < nxt ∨ nxt < una ∨ 65536 < nxt - una) :
    Calls Try.prog 15 #[.int .i64 una, .int .i64 nxt, .int .u32 num, .slice A l.length c] w (Tells w (zero, 3)) := by
  have cases : una < 0 ∨ (¬ una < 0 ∧ 4611686018427387904 < nxt) ∨ (¬ una < 0 ∧ ¬ 4611686018427387904 < nxt ∧ nxt < una) ∨ (¬ una < 0 ∧ ¬ 4611686018427387904 < nxt ∧ ¬ nxt < una ∧ 65536 < nxt - una) := by omega
  clear h
  rcases cases with h1 | ⟨h1, h2⟩ | ⟨h1, h2, h3⟩ | ⟨h1, h2, h3, h4⟩
  all_goals
    go_enter Try.func15, Try.ntmps15
    go_wp2
    refine bodyPost_ret (v := .tuple #[.agg (cellsT zero (.slice Option.none 0 0)), .int .i64 3]) (by simp [results, Try.results15, go_sem, cellsT, zero]) rfl ⟨Option.none, 0, 0, rfl, .inl ⟨rfl, rfl⟩, fun b e => by simp [Value.ownBlock] at e, ?_⟩
    exact (Below.refl _ w).alloc (Nat.le_refl _) _
theorem look_old (una nxt num : Int) (A : Option Addr) (c : Nat) (l : List Block) (w : World) (u0 : 0 ≤ num) (u1 : num < 4294967296) (h : ¬ (una < 0 ∨ 4611686018427387904 < nxt ∨ nxt < una ∨ 65536 < nxt - una)) (h2 : unw una num < 0 ∨ 65536 < una - unw una num) :
    Calls Try.prog 15 #[.int .i64 una, .int .i64 nxt, .int .u32 num, .slice A l.length c] w (Tells w (zero, 11)) := by
  have h1 : 0 ≤ una ∧ nxt ≤ 4611686018427387904 ∧ una ≤ nxt ∧ nxt - una ≤ 65536 := by omega
  obtain ⟨k1, k2, k3, k4⟩ := h1
  clear h
  have U := Lib.hid (fun w => unw_calls una num w u0 u1)
  have hb := unw_bd una num
  generalize unw una num = u at *
  unfold Two at U
  have cases : u = -1 ∨ (0 ≤ u ∧ u ≤ 4611686018427387904 ∧ 65536 < una - u) := by omega
  clear hb h2
  rcases cases with rfl | ⟨h1, h2, h3⟩
  · simp only [show (if (0:Int) ≤ -1 then (-1 : Int) else 0) = 0 from rfl, show decide ((0:Int) ≤ -1) = false from rfl] at U
    go_enter Try.func15, Try.ntmps15
    go_wp2_with fail
    refine (U.out _).mono ?_
    rintro e w1 ⟨rfl, rfl⟩
    go_wp2
    refine bodyPost_ret (v := .tuple #[.agg (cellsT zero (.slice Option.none 0 0)), .int .i64 11]) (by simp [results, Try.results15, go_sem, cellsT, zero]) rfl ⟨Option.none, 0, 0, rfl, .inl ⟨rfl, rfl⟩, fun b e => by simp [Value.ownBlock] at e, ?_⟩
    exact (Below.refl _ w).alloc (Nat.le_refl _) _
  · rw [if_pos h1, show decide (0 ≤ u) = true from decide_eq_true h1] at U
    go_enter Try.func15, Try.ntmps15
    go_wp2_with fail
    refine (U.out _).mono ?_
    rintro e w1 ⟨rfl, rfl⟩
    go_wp2
    refine bodyPost_ret (v := .tuple #[.agg (cellsT zero (.slice Option.none 0 0)), .int .i64 11]) (by simp [results, Try.results15, go_sem, cellsT, zero]) rfl ⟨Option.none, 0, 0, rfl, .inl ⟨rfl, rfl⟩, fun b e => by simp [Value.ownBlock] at e, ?_⟩
    exact (Below.refl _ w).alloc (Nat.le_refl _) _
theorem look_ahead (una nxt num : Int) (A : Option Addr) (c : Nat) (l : List Block) (w : World) (u0 : 0 ≤ num) (u1 : num < 4294967296) (h : ¬ (una < 0 ∨ 4611686018427387904 < nxt ∨ nxt < una ∨ 65536 < nxt - una)) (h2 : ¬ (unw una num < 0 ∨ 65536 < una - unw una num)) (h3 : nxt < unw una num) :
    Calls Try.prog 15 #[.int .i64 una, .int .i64 nxt, .int .u32 num, .slice A l.length c] w (Tells w (zero, 12)) := by
  have h1 : 0 ≤ una ∧ nxt ≤ 4611686018427387904 ∧ una ≤ nxt ∧ nxt - una ≤ 65536 := by omega
  obtain ⟨k1, k2, k3, k4⟩ := h1
  clear h
  have U := Lib.hid (fun w => unw_calls una num w u0 u1)
  have hb := unw_bd una num
  generalize unw una num = u at *
  unfold Two at U
  have h1 : 0 ≤ u := by omega
  have h5 : u ≤ 4611686018427387904 := by omega
  have h4 : una - u ≤ 65536 := by omega
  clear hb h2
  rw [if_pos h1, show decide (0 ≤ u) = true from decide_eq_true h1] at U
  go_enter Try.func15, Try.ntmps15
  go_wp2_with fail
  refine (U.out _).mono ?_
  rintro e w1 ⟨rfl, rfl⟩
  go_wp2
  refine bodyPost_ret (v := .tuple #[.agg (cellsT zero (.slice Option.none 0 0)), .int .i64 12]) (by simp [results, Try.results15, go_sem, cellsT, zero]) rfl ⟨Option.none, 0, 0, rfl, .inl ⟨rfl, rfl⟩, fun b e => by simp [Value.ownBlock] at e, ?_⟩
  exact (Below.refl _ w).alloc (Nat.le_refl _) _
/-- Where a part of a list of blocks begins. -/
def AimK (a : Option Addr) (cap l : Nat) : Option Addr := if cap = l then a else a.map (·.add (l * 2))
theorem run_fromK (a : Option Addr) (len cap : Nat) (l : Int) (w : World) (h0 : 0 ≤ l) (h1 : l ≤ len) :
    (Instr.slice 23 (.slice a len cap) (some (.int .i64 l)) Option.none Option.none).run Try.prog w = .ok (.slice (AimK a cap l.toNat) (len - l.toNat) (cap - l.toNat)) w := by
  rw [run_slice_l (P := Try.prog) w 23 a len cap (by kernel_rfl) .i64 l h0 h1]
  have he : Try.prog.elem 23 = 43 := by kernel_rfl
  simp [he, sliced, AimK, go_sem]
theorem reps_fromK {w : World} {a : Option Addr} {cap l : Nat} {xs : List Block} (h : Aid.Reps w a 2 encK xs) (hc : xs.length ≤ cap) : Aid.Reps w (AimK a cap l) 2 encK (xs.drop l) := by
  intro i x hx
  rw [List.getElem?_drop] at hx
  obtain ⟨ad, rfl, had, hcell⟩ := h (l + i) x hx
  have hlt : l + i < xs.length := (List.getElem?_eq_some_iff.1 hx).1
  refine ⟨ad.add (l * 2), by simp [AimK]; omega, by unfold Addr.add; split <;> exact had, fun j v hv => ?_⟩
  have := hcell j v hv
  rw [Go.Addr.add_add]
  rw [← this]; congr 2; omega
attribute [local go_sem high] run_fromK
theorem out_new (ty : TypeId) (w : World) (a : Int) : Out ty w ((w.alloc (.cells (cellsT zero (.slice Option.none 0 0)) ty)).alloc (.cells (cellsT ⟨a, false, ⟨0, 0⟩, [], 0⟩ (.slice Option.none 0 0)) ty)) w.heap.size (w.heap.size + 1) ⟨a, false, ⟨0, 0⟩, [], 0⟩ (.slice Option.none 0 0) := by
  have h2 := Blk.new (w.alloc (.cells (cellsT zero (.slice Option.none 0 0)) ty)) ty (cellsT ⟨a, false, ⟨0, 0⟩, [], 0⟩ (.slice Option.none 0 0))
  simp only [World.size_alloc] at h2
  exact ⟨(Blk.new w ty _).alloc _, h2, .inl ⟨rfl, rfl⟩, fun b e => by simp [Value.ownBlock] at e, ((Below.refl _ w).alloc (Nat.le_refl _) _).alloc (by simp) _, Nat.le_refl _, by omega, by omega⟩
set_option maxRecDepth 100000 in
set_option maxHeartbeats 4000000 in
theorem look_ok (una nxt num : Int) (A : Option Addr) (c : Nat) (l : List Block) (w : World) (u0 : 0 ≤ num) (u1 : num < 4294967296) (h : ¬ (una < 0 ∨ 4611686018427387904 < nxt ∨ nxt < una ∨ 65536 < nxt - una)) (h2 : ¬ (unw una num < 0 ∨ 65536 < una - unw una num)) (h3 : ¬ nxt < unw una num)
    (hn : l.length ≤ maxLen) (hn16 : l.length * 16 ≤ 140737488351232) (hcap : l.length ≤ c) (hw : ∀ b ∈ l, WfK b) (hr : Reps w A 2 encK l) :
    Calls Try.prog 15 #[.int .i64 una, .int .i64 nxt, .int .u32 num, .slice A l.length c] w (Tells w (tells (unw una num) nxt l, 0)) := by
  have h1 : 0 ≤ una ∧ nxt ≤ 4611686018427387904 ∧ una ≤ nxt ∧ nxt - una ≤ 65536 := by omega
  obtain ⟨k1, k2, k3, k4⟩ := h1
  clear h
  have U := Lib.hid (fun w => unw_calls una num w u0 u1)
  have hb := unw_bd una num
  generalize unw una num = u at *
  unfold Two at U
  have h1 : 0 ≤ u := by omega
  have h5 : u ≤ nxt := by omega
  have h4 : una - u ≤ 65536 := by omega
  clear hb h2 h3
  rw [if_pos h1, show decide (0 ≤ u) = true from decide_eq_true h1] at U
  have T := Lib.hid (fun w hr => twice_calls u nxt l A c w hn hw hr)
  unfold PairV at T
  have R := Lib.hid hr
  have HW := Lib.hid hw
  have O0 := Lib.hid (out_new 29 w u)
  unfold maxLen at hn
  clear hr hw
  generalize hT : isT u nxt l = it at *
  generalize hS : tsp u nxt l = sp at *
  have HT := Lib.hid hT
  have HS := Lib.hid hS
  clear hT hS
  go_enter Try.func15, Try.ntmps15
  go_wp2_with fail
  refine (U.out _).mono ?_
  rintro e w1 ⟨rfl, rfl⟩
  go_wp2_with fail
  refine (T.out _ (R.out.below (O0.out.bel))).mono ?_
  rintro e w1 ⟨rfl, b1⟩
  have O1 := O0.out.below b1
  clear b1
  have x1 : w1.cell? ⟨w.heap.size + 1, 1, Option.none⟩ = some (.bool false) := O1.out.cell 1
  have x2 : w1.cell? ⟨w.heap.size + 1, 2, Option.none⟩ = some (.int .i64 0) := O1.out.cell 2
  have x3 : w1.cell? ⟨w.heap.size + 1, 3, Option.none⟩ = some (.int .i64 0) := O1.out.cell 3
  have xf := O1.out.frozen
  go_upto_if 68 with fail
  have O2 := Lib.hid (((O1.put (t' := ⟨u, false, ⟨sp.lo, 0⟩, [], 0⟩) 2 (.int .i64 sp.lo) (by simp [cellsT]) rfl).put (t' := ⟨u, false, sp, [], 0⟩) 3 (.int .i64 sp.hi) (by simp [cellsT]) rfl).put (t' := ⟨u, it, sp, [], 0⟩) 1 (.bool it) (by simp [cellsT]) rfl)
  generalize ((w1.setCell ⟨w.heap.size + 1, 2, Option.none⟩ (.int .i64 sp.lo)).setCell ⟨w.heap.size + 1, 3, Option.none⟩ (.int .i64 sp.hi)).setCell ⟨w.heap.size + 1, 1, Option.none⟩ (.bool it) = W at *
  clear x1 x2 x3 xf O1 O0
  obtain ⟨m, hm⟩ : ∃ m, m = rest u nxt l := ⟨_, rfl⟩
  have HM := Lib.hid hm
  have hml : m.length ≤ l.length := by
    rw [hm]
    unfold rest
    split <;> simp
  go_cut [3] (fun v3 wx => ∃ AA cc, v3 = .slice AA m.length cc ∧ Hid (Reps w AA 2 encK m) ∧ wx = W)
  case first =>
    cases it with
    | false =>
      have e : m = l := by rw [hm]; unfold rest; rw [HT.out]; rfl
      subst e
      go_wp2
      go_meet
      exact ⟨_, _, rfl, R, rfl⟩
    | true =>
      obtain ⟨x, r, rfl⟩ : ∃ x r, l = x :: r := by
        cases l with
        | nil => have := HT.out; simp [isT] at this
        | cons x r => exact ⟨x, r, rfl⟩
      have e : m = r := by rw [hm]; unfold rest; rw [HT.out]; rfl
      subst e
      have RR := Lib.hid (reps_fromK (l := 1) R.out hcap)
      have hl0 : (1 : Int) ≤ ((m.length + 1 : Nat) : Int) := by omega
      have hl1 : (1 : Int) ≤ (m.length : Int) + 1 := by omega
      simp only [List.length_cons]
      clear hm
      go_wp2
      go_meet
      exact ⟨AimK A c 1, c - 1, by simp, RR, rfl⟩
  case rest =>
    obtain ⟨AA, cc, rfl, RM, rfl⟩ := hcut
    clear R hm T
    have HWM : Hid (∀ b ∈ m, WfK b) := Lib.hid (fun b hb => HW.out b (by
      rw [HM.out] at hb
      unfold rest at hb
      split at hb
      · exact List.mem_of_mem_tail hb
      · exact hb))
    go_wp2
    go_loopw [73] (fun i wr => ∃ (k : Nat) (sv : Value), k ≤ m.length ∧ i = .int .i64 k ∧ Hid (Out 29 w wr w.heap.size (w.heap.size + 1) ⟨u, it, sp, sacksOf u nxt (m.take k), badOf u nxt (m.take k)⟩ sv)) (fun i _ => m.length - (intOf i).toNat)
    case atStart => exact ⟨0, _, by omega, rfl, O2⟩
    case round =>
      obtain ⟨k, sv, hk, rfl, HO⟩ := hrel
      clear O2
      by_cases hlt : k < m.length
      · obtain ⟨b, hb⟩ : ∃ b, m[k]? = some b := ⟨_, List.getElem?_eq_getElem hlt⟩
        obtain ⟨ad, rfl, had, hc⟩ := (RM.out.below HO.out.bel) k b hb
        have c0 : wr.cell? (ad.add (k * 2)) = some (.int .u32 b.l) := hc 0 _ rfl
        have c1 : wr.cell? ⟨(ad.add (k * 2)).block, (ad.add (k * 2)).off + 1, Option.none⟩ = some (.int .u32 b.r) := (add_next ad (k * 2) 1 (by omega)) ▸ hc 1 _ rfl
        have htk : m.take (k + 1) = m.take k ++ [b] := by rw [List.take_succ_eq_append_getElem hlt, (List.getElem?_eq_some_iff.1 hb).2]
        have K := Lib.hid (fun W => formed_calls u b W (HWM.out b (List.mem_of_getElem? hb)))
        unfold PairV at K
        have h6 := sacks_snoc u nxt (m.take k) b
        have h7 := bad_snoc u nxt (m.take k) b
        rw [← htk] at h6 h7
        have h8 := sacks_len u nxt (m.take k)
        have HS6 := Lib.hid h6
        have HS7 := Lib.hid h7
        have hgd : good u nxt b = (isF u b && (decide (u < (fsp u b).lo) && decide ((fsp u b).hi ≤ nxt))) := rfl
        have HGD := Lib.hid hgd
        have htl : (m.take k).length ≤ k := List.length_take_le _ _
        generalize sacksOf u nxt (m.take k) = sk at *
        generalize badOf u nxt (m.take k) = bd at *
        generalize fsp u b = s at *
        generalize isF u b = ok at *
        have bdl : (bd : Int) ≤ 9223372036854775806 := by omega
        have HSK : Hid (sk.length + bd ≤ k ∧ (k + 1) * 16 ≤ 140737488351232) := Lib.hid (by omega)
        clear hc hb htk h6 h7 h8 hgd htl
        go_wp2_with fail
        refine (K.out _).mono ?_
        rintro e w2 ⟨rfl, b2⟩
        have O3 := (HO.out.below ((Below.refl _ wr).alloc (Nat.le_refl _) (.cells #[.int .u32 b.l, .int .u32 b.r] 43))).below b2
        have O4 := O3.below ((Below.refl _ w2).alloc (Nat.le_refl _) (.cells #[.int .i64 s.lo, .int .i64 s.hi] 26))
        have N4 := Blk.new w2 26 #[.int .i64 s.lo, .int .i64 s.hi]
        have HO4 := Lib.hid O4
        have hgs : w.heap.size + 1 < w2.heap.size := O3.out.lt
        have s0 : (w2.alloc (.cells #[.int .i64 s.lo, .int .i64 s.hi] 26)).cell? ⟨w2.heap.size, 0, Option.none⟩ = some (.int .i64 s.lo) := N4.cell 0
        have s1 : (w2.alloc (.cells #[.int .i64 s.lo, .int .i64 s.hi] 26)).cell? ⟨w2.heap.size, 1, Option.none⟩ = some (.int .i64 s.hi) := N4.cell 1
        clear O3 O4 N4 c0 c1 b2
        go_upto_region 16 with fail
        generalize w2.alloc (.cells #[.int .i64 s.lo, .int .i64 s.hi] 26) = W3 at *
        have x4 : W3.cell? ⟨w.heap.size + 1, 4, Option.none⟩ = some sv := HO4.out.out.cell 4
        have x5 : W3.cell? ⟨w.heap.size + 1, 5, Option.none⟩ = some (.int .i64 bd) := HO4.out.out.cell 5
        have xf := HO4.out.out.frozen
        by_cases hgd : good u nxt b = true
        · have hgd2 := hgd
          rw [HGD.out] at hgd2
          simp only [Bool.and_eq_true, decide_eq_true_eq] at hgd2
          obtain ⟨rfl, g1, g2⟩ := hgd2
          rw [if_pos hgd] at HS6 HS7
          obtain ⟨svA, svn, svc, rfl⟩ := HO4.out.row.some_slice
          obtain ⟨i0, hi, hz0, hz1, hz2⟩ := info_parts info26
          clear hgd HGD
          go_wp2_with (at_builtin; refine wpList_append_row (by rfl) _ _ 27 (by rfl) i0 _ 16 Try.underlying27 hi hz0 hz1 hz2 (by decide) (by decide) encS_len encS_one (.slice svA svn svc) sk (by rfl) (row_alloc HO4.out.row _) _ 1 _ [s] rfl (by rfl) (src_one (heap_alloc_new _ _)) ?k5 ?k6 ?k7)
          case k5 => have := HSK.out; unfold maxLen; omega
          case k6 => have := HSK.out; omega
          case k7 =>
            intro v5 w5 hr5 ha5
            obtain ⟨A5, n5, c5, rfl⟩ := hr5.some_slice
            have O5 := Lib.hid ((HO4.out.below ((Below.refl _ W3).alloc (Nat.le_refl _) _)).app (t' := ⟨u, it, sp, sk ++ [s], bd⟩) hr5 ha5 (by simp [cellsT]))
            have X5 : Blk w5 (w.heap.size + 1) 29 _ := (ha5.block (w.heap.size + 1) (by have := HO4.out.out.lt; simp; omega) (fun e => (HO4.out.own _ e).2.2 rfl)).trans (HO4.out.out.alloc _)
            have q4 : w5.cell? ⟨w.heap.size + 1, 4, Option.none⟩ = some (.slice svA svn svc) := X5.cell 4
            have q5 := X5.frozen
            clear X5 hr5 ha5
            go_wp2
            go_roundw
            case rel => exact ⟨k + 1, _, by omega, by go_num, Lib.hid (by rw [HS6.out, HS7.out]; exact O5.out)⟩
            case measure => simp [intOf]; omega
        · have hgf := hgd
          rw [HGD.out] at hgd
          have cases : ok = false ∨ (ok = true ∧ s.lo ≤ u) ∨ (ok = true ∧ ¬ s.lo ≤ u ∧ nxt < s.hi) := by
            cases ok with
            | false => exact .inl rfl
            | true =>
              simp only [Bool.true_and, Bool.and_eq_true, decide_eq_true_eq] at hgd
              refine .inr ?_
              by_cases h : s.lo ≤ u
              · exact .inl ⟨rfl, h⟩
              · exact .inr ⟨rfl, h, by omega⟩
          rw [if_neg hgf] at HS6 HS7
          clear hgd hgf HGD
          rcases cases with rfl | ⟨rfl, g1⟩ | ⟨rfl, g1, g2⟩
          all_goals
            go_wp2
            go_roundw
            case rel => exact ⟨k + 1, sv, by omega, by go_num, Lib.hid (by rw [HS6.out, HS7.out]; exact HO4.out.put 5 _ (by simp [cellsT]) rfl)⟩
            case measure => simp [intOf]; omega
      · obtain rfl : k = m.length := by omega
        rw [List.take_of_length_le (Nat.le_refl _)] at HO
        obtain ⟨svA, svn, svc, rfl⟩ := HO.out.row.some_slice
        have FIN : Hid (tells u nxt l = ⟨u, it, sp, sacksOf u nxt m, badOf u nxt m⟩) := Lib.hid (by unfold tells; rw [HT.out, HS.out, ← HM.out])
        generalize sacksOf u nxt m = sk at *
        generalize badOf u nxt m = bd at *
        generalize tells u nxt l = TL at *
        obtain rfl := FIN.out
        have x0 : wr.cell? ⟨w.heap.size + 1, 0, Option.none⟩ = some (.int .i64 u) := HO.out.out.cell 0
        have x1 : wr.cell? ⟨w.heap.size + 1, 1, Option.none⟩ = some (.bool it) := HO.out.out.cell 1
        have x2 : wr.cell? ⟨w.heap.size + 1, 2, Option.none⟩ = some (.int .i64 sp.lo) := HO.out.out.cell 2
        have x3 : wr.cell? ⟨w.heap.size + 1, 3, Option.none⟩ = some (.int .i64 sp.hi) := HO.out.out.cell 3
        have x4 : wr.cell? ⟨w.heap.size + 1, 4, Option.none⟩ = some (.slice svA svn svc) := HO.out.out.cell 4
        have x5 : wr.cell? ⟨w.heap.size + 1, 5, Option.none⟩ = some (.int .i64 bd) := HO.out.out.cell 5
        have y0 : wr.cell? ⟨w.heap.size, 0, Option.none⟩ = some (.int .i64 0) := HO.out.res.cell 0
        have y1 : wr.cell? ⟨w.heap.size, 1, Option.none⟩ = some (.bool false) := HO.out.res.cell 1
        have y2 : wr.cell? ⟨w.heap.size, 2, Option.none⟩ = some (.int .i64 0) := HO.out.res.cell 2
        have y3 : wr.cell? ⟨w.heap.size, 3, Option.none⟩ = some (.int .i64 0) := HO.out.res.cell 3
        have y4 : wr.cell? ⟨w.heap.size, 4, Option.none⟩ = some (.slice Option.none 0 0) := HO.out.res.cell 4
        have y5 : wr.cell? ⟨w.heap.size, 5, Option.none⟩ = some (.int .i64 0) := HO.out.res.cell 5
        have yf := HO.out.res.frozen
        have DN := HO.out.done
        clear hlt
        go_wp2
        revert DN
        generalize (((((wr.setCell ⟨w.heap.size, 0, Option.none⟩ (.int .i64 u)).setCell ⟨w.heap.size, 1, Option.none⟩ (.bool it)).setCell ⟨w.heap.size, 2, Option.none⟩ (.int .i64 sp.lo)).setCell ⟨w.heap.size, 3, Option.none⟩ (.int .i64 sp.hi)).setCell ⟨w.heap.size, 4, Option.none⟩ (.slice svA svn svc)).setCell ⟨w.heap.size, 5, Option.none⟩ (.int .i64 bd) = W'
        rintro ⟨F1, F2, F3⟩
        have z0 : W'.cell? ⟨w.heap.size, 0, Option.none⟩ = some (.int .i64 u) := F1.cell 0
        have z1 : W'.cell? ⟨w.heap.size, 1, Option.none⟩ = some (.bool it) := F1.cell 1
        have z2 : W'.cell? ⟨w.heap.size, 2, Option.none⟩ = some (.int .i64 sp.lo) := F1.cell 2
        have z3 : W'.cell? ⟨w.heap.size, 3, Option.none⟩ = some (.int .i64 sp.hi) := F1.cell 3
        have z4 : W'.cell? ⟨w.heap.size, 4, Option.none⟩ = some (.slice svA svn svc) := F1.cell 4
        have z5 : W'.cell? ⟨w.heap.size, 5, Option.none⟩ = some (.int .i64 bd) := F1.cell 5
        exact bodyPost_ret (v := .tuple #[.agg (cellsT ⟨u, it, sp, sk, bd⟩ (.slice svA svn svc)), .int .i64 0]) (by simp [results, Try.results15, go_sem, cellsT, z0, z1, z2, z3, z4, z5]) rfl ⟨svA, svn, svc, rfl, F2, fun b e => (HO.out.own b e).1, F3⟩
theorem look_calls (una nxt num : Int) (A : Option Addr) (c : Nat) (l : List Block) (w : World) (u0 : 0 ≤ num) (u1 : num < 4294967296) (hn : l.length ≤ maxLen) (hn16 : l.length * 16 ≤ 140737488351232) (hcap : l.length ≤ c) (hw : ∀ b ∈ l, WfK b) (hr : Reps w A 2 encK l) :
    Calls Try.prog 15 #[.int .i64 una, .int .i64 nxt, .int .u32 num, .slice A l.length c] w (Tells w (look una nxt num l)) := by
  unfold look
  by_cases h1 : una < 0 ∨ 4611686018427387904 < nxt ∨ nxt < una ∨ 65536 < nxt - una
  · rw [if_pos h1]
    exact look_err una nxt num A c l w h1
  · rw [if_neg h1]
    by_cases h2 : unw una num < 0 ∨ 65536 < una - unw una num
    · rw [if_pos h2]
      exact look_old una nxt num A c l w u0 u1 h1 h2
    · rw [if_neg h2]
      by_cases h3 : nxt < unw una num
      · rw [if_pos h3]
        exact look_ahead una nxt num A c l w u0 u1 h1 h2 h3
      · rw [if_neg h3]
        exact look_ok una nxt num A c l w u0 u1 h1 h2 h3 hn hn16 hcap hw hr
end Go.Proofs.Ytaokiocpfpdmkaa.Dups
