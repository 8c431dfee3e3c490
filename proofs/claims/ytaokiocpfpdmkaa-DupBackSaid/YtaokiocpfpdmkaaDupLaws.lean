/- Chapter 10 (dup): whether two lists of spans, or two answers, are the same; what must come of fixed calls. -/
import Derived.Test.YtaokiocpfpdmkaaLookRef2
import Derived.BigQuiet
set_option linter.unusedSimpArgs false
set_option linter.unusedVariables false
attribute [local go_sem ↓] Go.wp_at_zero Go.wp_at_succ
namespace Go.Proofs.Ytaokiocpfpdmkaa.Dups
open Go.BigFrame Go.RowKit Go.OpenShut Go.Proofs.Ytaokiocpfpdmkaa.Aid Go.Proofs.Ytaokiocpfpdmkaa.Spans
open Led (encS encS_len encS_one info26 row_alloc row_drew src_one)
attribute [local go_sem high] eq_spans
set_option maxRecDepth 100000 in
set_option maxHeartbeats 1000000 in
theorem sames_calls (xs : List Span) (A B : Option Addr) (c d : Nat) (w : World) (hn : xs.length ≤ maxLen) (hA : Reps w A 2 encS xs) (hB : Reps w B 2 encS xs) :
    Calls Try.prog 23 #[.slice A xs.length c, .slice B xs.length d] w (Gives w (.bool true)) := by
  unfold maxLen at hn
  have RA := Lib.hid hA
  have RB := Lib.hid hB
  clear hA hB
  go_enter Try.func23, Try.ntmps23
  go_wp2
  go_loopw [5] (fun i wr => ∃ k : Nat, k ≤ xs.length ∧ i = .int .i64 k ∧ Hid (∃ n, wr = w.drewN n)) (fun i _ => xs.length - (intOf i).toNat)
  case atStart => exact ⟨0, by omega, rfl, Lib.hid ⟨0, rfl⟩⟩
  case round =>
    obtain ⟨k, hk, rfl, hW⟩ := hrel
    obtain ⟨n, rfl⟩ := hW.out
    clear hW
    by_cases hlt : k < xs.length
    · obtain ⟨x, hx⟩ : ∃ x, xs[k]? = some x := ⟨_, List.getElem?_eq_getElem hlt⟩
      obtain ⟨a, rfl, _, hc⟩ := RA.out k x hx
      obtain ⟨b, rfl, _, hd⟩ := RB.out k x hx
      have c0 : (w.drewN n).cell? (a.add (k * 2)) = some (.int .i64 x.lo) := hc 0 _ rfl
      have c1 : (w.drewN n).cell? ⟨(a.add (k * 2)).block, (a.add (k * 2)).off + 1, Option.none⟩ = some (.int .i64 x.hi) := (add_next a (k * 2) 1 (by omega)) ▸ hc 1 _ rfl
      have d0 : (w.drewN n).cell? (b.add (k * 2)) = some (.int .i64 x.lo) := hd 0 _ rfl
      have d1 : (w.drewN n).cell? ⟨(b.add (k * 2)).block, (b.add (k * 2)).off + 1, Option.none⟩ = some (.int .i64 x.hi) := (add_next b (k * 2) 1 (by omega)) ▸ hd 1 _ rfl
      generalize hW : w.drewN n = W at *
      have HW := Lib.hid hW
      have k1 : (0 : Int) ≤ (k : Int) := by omega
      have k2 : (k : Int) < (xs.length : Int) := by omega
      clear hc hd hx hW
      go_wp2
      go_quiet (fail)
      go_wp2
      go_roundw
      case rel => exact ⟨k + 1, by omega, by go_num, Lib.hid ⟨_, by rw [← HW.out, World.drewN_drewN]⟩⟩
      case measure => simp [intOf]; omega
    · go_wp2
      go_ret
      exact ⟨rfl, below_drewN (Below.refl _ _) n⟩
theorem row_len {w : World} {A : Option Addr} {n c : Nat} {xs : List Span} (h : RowOf 26 2 encS w (.slice A n c) xs) : n = xs.length ∧ xs.length ≤ 9223372036854775807 ∧ Reps w A 2 encS xs := by
  obtain ⟨A', cap, e, _, hR⟩ := h.reps encS_len
  injection e with e1 e2 e3
  subst e1 e2 e3
  refine ⟨rfl, ?_, hR⟩
  obtain ⟨_, h2⟩ | ⟨_, _, _, h1, h2, h3, _⟩ := h
  · rw [h2]; simp
  · omega
theorem to_calls (a : Int) (i : Bool) (d : Span) (sv : Value) (b : Nat) (w : World) (A : Option Addr) (n c : Nat) (hs : sv = .slice A n c) : Calls Try.prog 18 #[.agg #[.int .i64 a, .bool i, .int .i64 d.lo, .int .i64 d.hi, sv, .int .i64 b]] w (Gives w (.agg #[.int .i64 a, .bool i, .int .i64 d.lo, .int .i64 d.hi, sv, .int .i64 b])) := by
  subst hs
  go_enter Try.func18, Try.ntmps18
  go_wp2
  refine bodyPost_ret (v := .agg #[.int .i64 a, .bool i, .int .i64 d.lo, .int .i64 d.hi, .slice A n c, .int .i64 b]) (by simp [results, Try.results18, go_sem]) rfl ⟨rfl, ?_⟩
  exact ((Below.refl _ w).alloc (Nat.le_refl _) _).alloc (by simp) _
set_option maxHeartbeats 1000000 in
theorem same_calls (t : Told) (A B : Option Addr) (n m c d : Nat) (w : World) (h1 : RowOf 26 2 encS w (.slice A n c) t.sacks) (h2 : RowOf 26 2 encS w (.slice B m d) t.sacks) :
    Calls Try.prog 17 #[.agg (cellsT t (.slice A n c)), .agg (cellsT t (.slice B m d))] w (Gives w (.bool true)) := by
  obtain ⟨a, i, dp, xs, bd⟩ := t
  obtain ⟨rfl, hl, R1⟩ := row_len h1
  obtain ⟨rfl, _, R2⟩ := row_len h2
  have K := Lib.hid (fun w' (hb : Below w.heap.size w w') => sames_calls xs A B c d w' hl (R1.below hb) (R2.below hb))
  unfold cellsT
  clear h1 h2 R1 R2
  go_enter Try.func17, Try.ntmps17
  go_wp2_with fail
  refine (K.out _ ?_).mono ?_
  · exact ((Below.refl _ w).alloc (Nat.le_refl _) _).alloc (by simp) _
  · rintro e w1 ⟨rfl, b1⟩
    go_wp2
    go_ret
    exact ⟨rfl, below2 b1⟩
theorem reps_blocks {w : World} {g : Nat} {t : TypeId} (x y : Block) (h : Blk w g t #[.int .u32 x.l, .int .u32 x.r, .int .u32 y.l, .int .u32 y.r]) : Reps w (some ⟨g, 0, Option.none⟩) 2 encK [x, y] := by
  intro i b hb
  refine ⟨_, rfl, h.lt, fun j v hv => ?_⟩
  rw [add0, h.cell]
  match i, hb with
  | 0, hb =>
    obtain rfl : x = b := by simpa using hb
    match j, hv with
    | 0, hv => simpa [encK] using hv
    | 1, hv => simpa [encK] using hv
    | j + 2, hv => simp [encK] at hv
  | 1, hb =>
    obtain rfl : y = b := by simpa using hb
    match j, hv with
    | 0, hv => simpa [encK] using hv
    | 1, hv => simpa [encK] using hv
    | j + 2, hv => simp [encK] at hv
  | i + 2, hb => simp at hb
theorem look_known : look 100 200 120 [⟨110, 120⟩, ⟨150, 160⟩] = (⟨120, true, ⟨110, 120⟩, [⟨150, 160⟩], 0⟩, 0) := by
  rfl
set_option maxHeartbeats 1000000 in
theorem known_calls (w : World) : Calls Try.prog 14 #[] w (Gives w (.bool true)) := by
  have K := Lib.hid (fun W (h : Blk W w.heap.size 43 #[.int .u32 110, .int .u32 120, .int .u32 150, .int .u32 160]) => look_calls 100 200 120 (some ⟨w.heap.size, 0, Option.none⟩) 2 [⟨110, 120⟩, ⟨150, 160⟩] W (by decide) (by decide) (by decide) (by decide) (by decide) (fun b hb => by simp only [List.mem_cons, List.not_mem_nil, or_false] at hb; rcases hb with rfl | rfl <;> exact ⟨⟨by decide, by decide⟩, ⟨by decide, by decide⟩⟩) (reps_blocks ⟨110, 120⟩ ⟨150, 160⟩ h))
  rw [look_known] at K
  go_enter Try.func14, Try.ntmps14
  go_wp2_with fail
  refine (K.out _ (Blk.new _ _ _)).mono ?_
  rintro e w1 ⟨A, n, c, rfl, hr, ho, hb⟩
  obtain ⟨rfl, _, _⟩ := row_len hr
  unfold cellsT
  go_wp2
  go_ret
  exact ⟨rfl, bn_alloc (below1 hb) _⟩
/-- The answer in a box of the law's own. -/
structure Held (ty : TypeId) (w W : World) (g : Nat) (t : Told) (sv : Value) : Prop where
  box : Blk W g ty (cellsT t sv)
  row : RowOf 26 2 encS W sv t.sacks
  ge : w.heap.size ≤ g
  own : ∀ b, sv.ownBlock = some b → w.heap.size ≤ b
  bel : Below w.heap.size w W
theorem Held.below {ty : TypeId} {w W W' : World} {g : Nat} {t : Told} {sv : Value} (h : Held ty w W g t sv) (hb : Below W.heap.size W W') : Held ty w W' g t sv :=
  ⟨h.box.below hb h.box.lt, h.row.below hb, h.ge, h.own, below_then h.bel h.bel.size hb⟩
theorem held_new {w w0 w1 : World} {t : Told} {sv : Value} (ty : TypeId) (hw : Below w.heap.size w w0) (hr : RowOf 26 2 encS w1 sv t.sacks) (ho : ∀ b, sv.ownBlock = some b → w0.heap.size ≤ b) (hb : Below w0.heap.size w0 w1) : Held ty w (w1.alloc (.cells (cellsT t sv) ty)) w1.heap.size t sv := by
  have h1 := hw.size
  have h2 := hb.size
  exact ⟨Blk.new w1 ty _, row_alloc hr _, by omega, fun b e => by have := ho b e; omega, bn_alloc (below_then hw hw.size hb) _⟩
def Yes (w : World) (e : Ending) (w' : World) : Prop := e = .returned (.bool true) ∧ Below w.heap.size w w'
set_option maxRecDepth 100000 in
set_option maxHeartbeats 4000000 in
theorem looks_walk (una nxt num : Int) (A : Option Addr) (c : Nat) (l : List Block) (w : World) (u0 : 0 ≤ num) (u1 : num < 4294967296) (hn : l.length ≤ maxLen) (hn16 : l.length * 16 ≤ 140737488351232) (hcap : l.length ≤ c) (hw : ∀ b ∈ l, WfK b) (hr : Reps w A 2 encK l) :
    Calls Try.prog 3 #[.int .i64 una, .int .i64 nxt, .int .u32 num, .slice A l.length c] w (Yes w) := by
  have R := Lib.hid hr
  have K1 := Lib.hid (fun W h => look_calls una nxt num A c l W u0 u1 hn hn16 hcap hw h)
  have K2 := Lib.hid (fun W h => rlook_calls una nxt num A c l W u0 u1 hn hn16 hcap hw h)
  unfold maxLen at hn
  clear hr hw
  generalize look una nxt num l = r at *
  obtain ⟨t, er⟩ := r
  go_enter Try.func3, Try.ntmps3
  go_wp2_with fail
  refine (known_calls _).mono ?_
  rintro e w1 ⟨rfl, b1⟩
  have B1 := Lib.hid b1
  clear b1
  go_wp2_with fail
  refine (K1.out _ (R.out.below B1.out)).mono ?_
  rintro e w2 ⟨S1, n1, c1, rfl, hr1, ho1, hb1⟩
  have H1 := Lib.hid (held_new 29 B1.out hr1 ho1 hb1)
  clear hr1 ho1 hb1
  unfold cellsT at H1 ⊢
  go_wp2_with fail
  refine (K2.out _ (R.out.below H1.out.bel)).mono ?_
  rintro e w3 ⟨S2, n2, c2, rfl, hr2, ho2, hb2⟩
  have H2 := Lib.hid (held_new 33 H1.out.bel hr2 ho2 hb2)
  have H3 := Lib.hid ((H1.out.below hb2).below ((Below.refl _ w3).alloc (Nat.le_refl _) (.cells (cellsT t (.slice S2 n2 c2)) 33)))
  clear hr2 ho2 hb2 H1
  unfold cellsT at H2 H3 ⊢
  go_upto_region 5 with fail
  generalize w3.alloc (.cells #[.int .i64 t.ack, .bool t.isDup, .int .i64 t.dup.lo, .int .i64 t.dup.hi, .slice S2 n2 c2, .int .i64 t.bad] 33) = W at *
  generalize w2.heap.size = g1 at *
  generalize w3.heap.size = g2 at *
  have e0 : ∀ d os, (Go.Sort.grow (redrawn W d) os).cell? ⟨g1, 0, Option.none⟩ = some (.int .i64 t.ack) := fun d os => (H3.out.box.regrown d os).cell 0
  have e1 : ∀ d os, (Go.Sort.grow (redrawn W d) os).cell? ⟨g1, 1, Option.none⟩ = some (.bool t.isDup) := fun d os => (H3.out.box.regrown d os).cell 1
  have e2 : ∀ d os, (Go.Sort.grow (redrawn W d) os).cell? ⟨g1, 2, Option.none⟩ = some (.int .i64 t.dup.lo) := fun d os => (H3.out.box.regrown d os).cell 2
  have e3 : ∀ d os, (Go.Sort.grow (redrawn W d) os).cell? ⟨g1, 3, Option.none⟩ = some (.int .i64 t.dup.hi) := fun d os => (H3.out.box.regrown d os).cell 3
  have e4 : ∀ d os, (Go.Sort.grow (redrawn W d) os).cell? ⟨g1, 4, Option.none⟩ = some (.slice S1 n1 c1) := fun d os => (H3.out.box.regrown d os).cell 4
  have e5 : ∀ d os, (Go.Sort.grow (redrawn W d) os).cell? ⟨g1, 5, Option.none⟩ = some (.int .i64 t.bad) := fun d os => (H3.out.box.regrown d os).cell 5
  have f0 : ∀ d os, (Go.Sort.grow (redrawn W d) os).cell? ⟨g2, 0, Option.none⟩ = some (.int .i64 t.ack) := fun d os => (H2.out.box.regrown d os).cell 0
  have f1 : ∀ d os, (Go.Sort.grow (redrawn W d) os).cell? ⟨g2, 1, Option.none⟩ = some (.bool t.isDup) := fun d os => (H2.out.box.regrown d os).cell 1
  have f2 : ∀ d os, (Go.Sort.grow (redrawn W d) os).cell? ⟨g2, 2, Option.none⟩ = some (.int .i64 t.dup.lo) := fun d os => (H2.out.box.regrown d os).cell 2
  have f3 : ∀ d os, (Go.Sort.grow (redrawn W d) os).cell? ⟨g2, 3, Option.none⟩ = some (.int .i64 t.dup.hi) := fun d os => (H2.out.box.regrown d os).cell 3
  have f4 : ∀ d os, (Go.Sort.grow (redrawn W d) os).cell? ⟨g2, 4, Option.none⟩ = some (.slice S2 n2 c2) := fun d os => (H2.out.box.regrown d os).cell 4
  have f5 : ∀ d os, (Go.Sort.grow (redrawn W d) os).cell? ⟨g2, 5, Option.none⟩ = some (.int .i64 t.bad) := fun d os => (H2.out.box.regrown d os).cell 5
  have K3 := Lib.hid (fun d os => Calls.regrown_of (to_calls t.ack t.isDup t.dup (.slice S1 n1 c1) t.bad (Go.Sort.grow (redrawn W d) os) S1 n1 c1 rfl))
  have K4 := Lib.hid (fun d os => Calls.regrown_of (same_calls t S1 S2 n1 n2 c1 c2 (Go.Sort.grow (redrawn W d) os) (H3.out.row.below (below_regrown W d os)) (H2.out.row.below (below_regrown W d os))))
  unfold cellsT at K4
  have K5 := Lib.hid (fun d os => Calls.regrown_of (known_calls (Go.Sort.grow (redrawn W d) os)))
  refine wp_region_quiet_below (by kernel_rfl) (by kernel_rfl) ?_
  repeat (go_big_quiet_step (first | exact K3.out _ _ | exact K4.out _ _ | exact K5.out _ _))
  refine wpQuiet_nil ?_
  rintro _ ⟨⟨nq, osq⟩, rfl⟩
  go_wp2
  go_ret
  exact ⟨rfl, below_then H3.out.bel H3.out.bel.size (below_regrown W nq osq)⟩
end Go.Proofs.Ytaokiocpfpdmkaa.Dups
