/- Chapter 10 (dup): the first block's span, if its bytes came once more. -/
import Derived.Test.YtaokiocpfpdmkaaFormed
import Derived.Test.YtaokiocpfpdmkaaSpanHoldsRef
set_option linter.unusedSimpArgs false
set_option linter.unusedVariables false
attribute [local go_sem ↓] Go.wp_at_zero Go.wp_at_succ
namespace Go.Proofs.Ytaokiocpfpdmkaa.Dups
open Go.BigFrame Go.RowKit Go.OpenShut Go.Proofs.Ytaokiocpfpdmkaa.Aid Go.Proofs.Ytaokiocpfpdmkaa.Spans
/-- Does the second block hold the first one's span, within the window? -/
def wth (ack nxt : Int) (s : Span) : List Block → Bool
  | _ :: y :: _ => decide (s.hi ≤ nxt) && (isF ack y && holds (fsp ack y) s)
  | _ => false
def isT (ack nxt : Int) : List Block → Bool
  | [] => false
  | x :: r => isF ack x && (decide ((fsp ack x).hi ≤ ack) || wth ack nxt (fsp ack x) (x :: r))
def tsp (ack nxt : Int) (l : List Block) : Span := if isT ack nxt l = true then fsp ack l.head! else ⟨0, 0⟩
theorem keep_cells {W w1 : World} (hb : Below W.heap.size W w1) : ∀ p v, W.cell? p = some v → w1.cell? p = some v := fun p v h => (hb.cell (World.block_lt_of_cell? W _ h)).trans h
set_option maxHeartbeats 1000000 in
theorem within_calls (ack nxt : Int) (s : Span) (l : List Block) (A : Option Addr) (c : Nat) (g5 g8 g4 g3 : Nat) (W : World) (hn : l.length ≤ maxLen) (hw : ∀ b ∈ l, WfK b) (hr : Reps W A 2 encK l)
    (h5 : W.cell? ⟨g5, 0, Option.none⟩ = some (.slice A l.length c)) (h8 : At2 W g8 s) (h4 : W.cell? ⟨g4, 0, Option.none⟩ = some (.int .i64 nxt)) (h3 : W.cell? ⟨g3, 0, Option.none⟩ = some (.int .i64 ack)) :
    Calls Try.prog 77 #[.pointer (some ⟨g5, 0, Option.none⟩), .pointer (some ⟨g8, 0, Option.none⟩), .pointer (some ⟨g4, 0, Option.none⟩), .pointer (some ⟨g3, 0, Option.none⟩)] W (Gives W (.bool (wth ack nxt s l))) := by
  unfold maxLen at hn
  obtain ⟨c8, c9⟩ := h8
  rcases l with _ | ⟨x, _ | ⟨y, r⟩⟩
  ·
    simp only [List.length_nil] at h5
    clear hw hr
    go_enter Try.func77, Try.ntmps77
    go_wp2
    go_ret
    exact ⟨rfl, Below.refl _ _⟩
  ·
    simp only [List.length_cons, List.length_nil] at h5
    clear hw hr
    go_enter Try.func77, Try.ntmps77
    go_wp2
    go_ret
    exact ⟨rfl, Below.refl _ _⟩
  ·
    have hlen : (x :: y :: r).length = r.length + 2 := rfl
    rw [hlen] at h5 hn
    by_cases hs : s.hi ≤ nxt
    · have hy := hw y (by simp)
      obtain ⟨ad, rfl, had, hc⟩ := hr 1 y rfl
      have y0 : W.cell? ⟨ad.block, ad.off + 2, Option.none⟩ = some (.int .u32 y.l) := hc 0 _ rfl
      have y1 : W.cell? ⟨ad.block, ad.off + 2 + 1, Option.none⟩ = some (.int .u32 y.r) := hc 1 _ rfl
      have hi1 : (1 : Int) < (r.length : Int) + 2 := by omega
      have n0 := World.new_ne W _ y0
      have n1 := World.new_ne W _ y1
      have n2 := World.new_ne W _ h5
      have n3 := World.new_ne W _ h3
      have n4 := World.new_ne W _ c8
      have n5 := World.new_ne W _ c9
      have K := Lib.hid (fun W => formed_calls ack y W hy)
      unfold PairV at K
      have e : wth ack nxt s (x :: y :: r) = (isF ack y && holds (fsp ack y) s) := by simp [wth, hs]
      rw [e]
      have KH := Lib.hid (holds_calls (fsp ack y) s)
      generalize holds (fsp ack y) s = hd at *
      generalize fsp ack y = t at *
      generalize isF ack y = ok at *
      clear hw hr hc hy e hlen
      go_enter Try.func77, Try.ntmps77
      go_wp2
      go_region_held3 (fun w' => w'.cell? ⟨ad.block, ad.off + 2, Option.none⟩ = some (.int .u32 y.l) ∧ w'.cell? ⟨ad.block, ad.off + 2 + 1, Option.none⟩ = some (.int .u32 y.r) ∧ w'.cell? ⟨g5, 0, Option.none⟩ = some (.slice (some ad) (r.length + 2) c) ∧ w'.cell? ⟨g3, 0, Option.none⟩ = some (.int .i64 ack) ∧ w'.cell? ⟨g8, 0, Option.none⟩ = some (.int .i64 s.lo) ∧ w'.cell? ⟨g8, 1, Option.none⟩ = some (.int .i64 s.hi)) (go_keep) ((go_at_call 50; refine (K.out _).mono ?_; rintro e w1 ⟨rfl, hb⟩; have kk := keep_cells hb; obtain ⟨hc, hf⟩ := bcell hb; have HB := Lib.hid hb; clear hb))
      all_goals
        rename_i hH
        obtain ⟨_, _, _, _, q0, q1⟩ := hH
        cases ok with
        | false =>
          go_wp2
          go_ret
          refine ⟨rfl, ?_⟩
          repeat (first | exact Below.refl _ _ | with_reducible apply bn_alloc | with_reducible apply bn_drew | (with_reducible refine bn_set ?_ (by dsimp only; omega) _) | (with_reducible refine bn_then ?_ HB.out))
        | true =>
          go_wp2_with ((with_reducible refine (KH.out _).mono ?_); rintro e w2 ⟨rfl, b2⟩)
          go_ret
          refine ⟨rfl, bn_then ?_ b2⟩
          repeat (first | exact Below.refl _ _ | with_reducible apply bn_alloc | with_reducible apply bn_drew | (with_reducible refine bn_set ?_ (by dsimp only; omega) _) | (with_reducible refine bn_then ?_ HB.out))
    · have e : wth ack nxt s (x :: y :: r) = false := by simp [wth, hs]
      rw [e]
      clear hw hr e hlen
      go_enter Try.func77, Try.ntmps77
      go_wp2
      go_ret
      exact ⟨rfl, Below.refl _ _⟩
structure TBox (w W : World) (ack nxt : Int) (v : Value) : Prop where
  c3 : Blk W w.heap.size 3 #[.int .i64 ack]
  c4 : Blk W (w.heap.size + 1) 3 #[.int .i64 nxt]
  c5 : Blk W (w.heap.size + 1 + 1) 23 #[v]
  c6 : Blk W (w.heap.size + 1 + 1 + 1) 26 #[.int .i64 0, .int .i64 0]
  bel : Below w.heap.size w W
theorem tbox_new (w : World) (ack nxt : Int) (v : Value) : TBox w ((((w.alloc (.cells #[.int .i64 ack] 3)).alloc (.cells #[.int .i64 nxt] 3)).alloc (.cells #[v] 23)).alloc (.cells #[.int .i64 0, .int .i64 0] 26)) ack nxt v := by
  refine ⟨(((Blk.new w 3 _).alloc _).alloc _).alloc _, ?_, ?_, ?_, ((((Below.refl _ w).alloc (Nat.le_refl _) _).alloc (by simp) _).alloc (by simp; omega) _).alloc (by simp; omega) _⟩
  · have := ((Blk.new (w.alloc (.cells #[.int .i64 ack] 3)) 3 #[.int .i64 nxt]).alloc (.cells #[v] 23)).alloc (.cells #[.int .i64 0, .int .i64 0] 26)
    simpa using this
  · have := (Blk.new ((w.alloc (.cells #[.int .i64 ack] 3)).alloc (.cells #[.int .i64 nxt] 3)) 23 #[v]).alloc (.cells #[.int .i64 0, .int .i64 0] 26)
    simpa using this
  · have := Blk.new (((w.alloc (.cells #[.int .i64 ack] 3)).alloc (.cells #[.int .i64 nxt] 3)).alloc (.cells #[v] 23)) 26 #[.int .i64 0, .int .i64 0]
    simpa using this
theorem TBox.below {w W W' : World} {ack nxt : Int} {v : Value} (h : TBox w W ack nxt v) (hb : Below W.heap.size W W') : TBox w W' ack nxt v :=
  ⟨h.c3.below hb h.c3.lt, h.c4.below hb h.c4.lt, h.c5.below hb h.c5.lt, h.c6.below hb h.c6.lt, below_then h.bel h.bel.size hb⟩
structure TAft (w W : World) (ack nxt : Int) (v : Value) (g : Nat) (t : Span) : Prop where
  box : TBox w W ack nxt v
  at8 : At2 W g t
  ge : w.heap.size + 1 + 1 + 1 < g
theorem aft_A {w W w1 : World} {ack nxt : Int} {v : Value} {t : Span} (T : TBox w W ack nxt v) (hb : Below W.drew.heap.size W.drew w1) : TAft w (w1.alloc (.cells #[.int .i64 t.lo, .int .i64 t.hi] 26)) ack nxt v w1.heap.size t := by
  have T1 : TBox w w1 ack nxt v := TBox.below (W := W.drew) ⟨T.c3, T.c4, T.c5, T.c6, below_drew T.bel⟩ hb
  exact ⟨T1.below ((Below.refl _ w1).alloc (Nat.le_refl _) _), at2_new rfl, T1.c6.lt⟩
theorem aft_B {w W w1 : World} {ack nxt : Int} {v : Value} {t : Span} (T : TBox w W ack nxt v) (hb : Below (W.alloc (.cells #[.int .i64 0, .int .i64 0] 26)).drew.heap.size (W.alloc (.cells #[.int .i64 0, .int .i64 0] 26)).drew w1) :
    TAft w ((w1.setCell ⟨W.heap.size, 0, Option.none⟩ (.int .i64 t.lo)).setCell ⟨W.heap.size, 1, Option.none⟩ (.int .i64 t.hi)) ack nxt v W.heap.size t := by
  have T0 := T.below ((Below.refl _ W).alloc (Nat.le_refl _) (.cells #[.int .i64 0, .int .i64 0] 26))
  have T1 : TBox w w1 ack nxt v := TBox.below (W := (W.alloc (.cells #[.int .i64 0, .int .i64 0] 26)).drew) ⟨T0.c3, T0.c4, T0.c5, T0.c6, below_drew T0.bel⟩ hb
  have hz : At2 w1 W.heap.size ⟨0, 0⟩ := at2_call (at2_drew (at2_newz rfl)) hb
  have h6 := T.c6.lt
  have hB : Below (w.heap.size + 1 + 1 + 1 + 1) w1 ((w1.setCell ⟨W.heap.size, 0, Option.none⟩ (.int .i64 t.lo)).setCell ⟨W.heap.size, 1, Option.none⟩ (.int .i64 t.hi)) := ((Below.refl _ w1).setCell h6 _).setCell h6 _
  exact ⟨⟨T1.c3.below hB (by omega), T1.c4.below hB (by omega), T1.c5.below hB (by omega), T1.c6.below hB (by omega), (T1.bel.setCell (by simp; omega) _).setCell (by simp; omega) _⟩, at2_stored hz, h6⟩
theorem tsp_no {ack nxt : Int} {l : List Block} (h : isT ack nxt l = false) : PairV (tsp ack nxt l) (isT ack nxt l) = .tuple #[.agg #[.int .i64 0, .int .i64 0], .bool false] := by
  unfold tsp
  rw [h]
  rfl
theorem tsp_yes {ack nxt : Int} {x : Block} {r : List Block} (h : isT ack nxt (x :: r) = true) : PairV (tsp ack nxt (x :: r)) (isT ack nxt (x :: r)) = .tuple #[.agg #[.int .i64 (fsp ack x).lo, .int .i64 (fsp ack x).hi], .bool true] := by
  unfold tsp
  rw [h]
  rfl
set_option maxHeartbeats 2000000 in
theorem twice_calls (ack nxt : Int) (l : List Block) (A : Option Addr) (c : Nat) (w : World) (hn : l.length ≤ maxLen) (hw : ∀ b ∈ l, WfK b) (hr : Reps w A 2 encK l) :
    Calls Try.prog 49 #[.int .i64 ack, .int .i64 nxt, .slice A l.length c] w (Gives w (PairV (tsp ack nxt l) (isT ack nxt l))) := by
  have HN := Lib.hid hn
  unfold maxLen at hn
  rcases l with _ | ⟨x, r⟩
  · rw [tsp_no rfl]
    simp only [List.length_nil]
    clear hw hr
    go_enter Try.func49, Try.ntmps49
    go_wp2
    refine bodyPost_ret (v := .tuple #[.agg #[.int .i64 0, .int .i64 0], .bool false]) (by simp [results, Try.results49, go_sem]) rfl ⟨rfl, ?_⟩
    exact ((((Below.refl _ w).alloc (Nat.le_refl _) _).alloc (by simp) _).alloc (by simp; omega) _).alloc (by simp; omega) _
  · have hx := hw x (by simp)
    have HW := Lib.hid hw
    have HR := Lib.hid hr
    have hlen : (x :: r).length = r.length + 1 := rfl
    rw [hlen] at hn ⊢
    have K := Lib.hid (fun W => formed_calls ack x W hx)
    unfold PairV at K
    have KW := Lib.hid (fun W g5 g8 g4 g3 (hr : Reps W A 2 encK (x :: r)) h5 h8 h4 h3 => within_calls ack nxt (fsp ack x) (x :: r) A c g5 g8 g4 g3 W HN.out HW.out hr h5 h8 h4 h3)
    rw [hlen] at KW
    have HT : Hid (isT ack nxt (x :: r) = (isF ack x && (decide ((fsp ack x).hi ≤ ack) || wth ack nxt (fsp ack x) (x :: r)))) := Lib.hid rfl
    have HY := Lib.hid (fun h => tsp_yes (ack := ack) (nxt := nxt) (x := x) (r := r) h)
    have HO := Lib.hid (fun h => tsp_no (ack := ack) (nxt := nxt) (l := x :: r) h)
    obtain ⟨ad, rfl, had, hc⟩ := hr 0 x rfl
    have a0 : w.cell? ad = some (.int .u32 x.l) := hc 0 _ rfl
    have a1 : w.cell? ⟨ad.block, ad.off + 1, Option.none⟩ = some (.int .u32 x.r) := by
      have := hc 1 _ rfl
      simpa [Addr.add] using this
    have HA0 := Lib.hid a0
    have HA1 := Lib.hid a1
    have hi1 : (0 : Int) < (r.length : Int) + 1 := by omega
    generalize PairV (tsp ack nxt (x :: r)) (isT ack nxt (x :: r)) = res at *
    generalize isT ack nxt (x :: r) = it at *
    generalize wth ack nxt (fsp ack x) (x :: r) = wb at *
    generalize fsp ack x = t at *
    generalize isF ack x = ok at *
    clear hw hr hc hx hlen a0 a1
    go_enter Try.func49, Try.ntmps49
    go_wp2
    have T := tbox_new w ack nxt (.slice (some ad) (r.length + 1) c)
    generalize (((w.alloc (.cells #[.int .i64 ack] 3)).alloc (.cells #[.int .i64 nxt] 3)).alloc (.cells #[.slice (some ad) (r.length + 1) c] 23)).alloc (.cells #[.int .i64 0, .int .i64 0] 26) = W at *
    have TT := Lib.hid T
    have a0 := keep_cells T.bel _ _ HA0.out
    have a1 := keep_cells T.bel _ _ HA1.out
    have c3 : W.cell? ⟨w.heap.size, 0, Option.none⟩ = some (.int .i64 ack) := T.c3.cell 0
    have c4 : W.cell? ⟨w.heap.size + 1, 0, Option.none⟩ = some (.int .i64 nxt) := T.c4.cell 0
    have c5 : W.cell? ⟨w.heap.size + 1 + 1, 0, Option.none⟩ = some (.slice (some ad) (r.length + 1) c) := T.c5.cell 0
    have c6 : W.cell? ⟨w.heap.size + 1 + 1 + 1, 0, Option.none⟩ = some (.int .i64 0) := T.c6.cell 0
    have c7 : W.cell? ⟨w.heap.size + 1 + 1 + 1, 1, Option.none⟩ = some (.int .i64 0) := T.c6.cell 1
    have f6 : ∀ i, W.frozen? ⟨w.heap.size + 1 + 1 + 1, i, Option.none⟩ = false := T.c6.frozen
    have s6 : w.heap.size + 1 + 1 + 1 < W.heap.size := T.c6.lt
    have n0 := World.new_ne W _ a0
    have n1 := World.new_ne W _ a1
    have n3 := World.new_ne W _ c3
    have n4 := World.new_ne W _ c4
    have n5 := World.new_ne W _ c5
    have n6 := World.new_ne W _ c6
    have n7 := World.new_ne W _ c7
    clear T
    go_region_held3 (fun w' => w'.cell? ad = some (.int .u32 x.l) ∧ w'.cell? ⟨ad.block, ad.off + 1, Option.none⟩ = some (.int .u32 x.r) ∧ w'.cell? ⟨w.heap.size + 1 + 1, 0, Option.none⟩ = some (.slice (some ad) (r.length + 1) c) ∧ w'.cell? ⟨w.heap.size, 0, Option.none⟩ = some (.int .i64 ack) ∧ w'.cell? ⟨w.heap.size + 1, 0, Option.none⟩ = some (.int .i64 nxt) ∧ w'.cell? ⟨w.heap.size + 1 + 1 + 1, 0, Option.none⟩ = some (.int .i64 0) ∧ w'.cell? ⟨w.heap.size + 1 + 1 + 1, 1, Option.none⟩ = some (.int .i64 0)) (go_keep) ((go_at_call 50; refine (K.out _).mono ?_; rintro e w1 ⟨rfl, hb⟩; have kk := keep_cells hb; obtain ⟨hc, hf⟩ := bcell hb; have HB := Lib.hid hb; clear hb))
    all_goals
      clear a0 a1 c3 c4 c5 c6 c7 f6 n0 n1 n3 n4 n5 n6 n7 kk hc hf
      first
        | (have AF := Lib.hid (aft_A (t := t) TT.out HB.out); generalize w1.alloc (.cells #[.int .i64 t.lo, .int .i64 t.hi] 26) = W3 at *)
        | (have AF := Lib.hid (aft_B (t := t) TT.out HB.out); generalize (w1.setCell ⟨W.heap.size, 0, Option.none⟩ (.int .i64 t.lo)).setCell ⟨W.heap.size, 1, Option.none⟩ (.int .i64 t.hi) = W3 at *)
      rename_i hH
      clear hH
      have c3 : W3.cell? ⟨w.heap.size, 0, Option.none⟩ = some (.int .i64 ack) := AF.out.box.c3.cell 0
      have c4 : W3.cell? ⟨w.heap.size + 1, 0, Option.none⟩ = some (.int .i64 nxt) := AF.out.box.c4.cell 0
      have c5 : W3.cell? ⟨w.heap.size + 1 + 1, 0, Option.none⟩ = some (.slice (some ad) (r.length + 1) c) := AF.out.box.c5.cell 0
      have c6 : W3.cell? ⟨w.heap.size + 1 + 1 + 1, 0, Option.none⟩ = some (.int .i64 0) := AF.out.box.c6.cell 0
      have c7 : W3.cell? ⟨w.heap.size + 1 + 1 + 1, 1, Option.none⟩ = some (.int .i64 0) := AF.out.box.c6.cell 1
      have f6 : ∀ i, W3.frozen? ⟨w.heap.size + 1 + 1 + 1, i, Option.none⟩ = false := AF.out.box.c6.frozen
      obtain ⟨c8, c9⟩ := AF.out.at8
      have g8 := AF.out.ge
      cases ok with
      | false =>
        have h1 : it = false := HT.out
        obtain rfl := HO.out h1
        clear h1 HT HY HO KW
        go_wp2
        refine bodyPost_ret (v := .tuple #[.agg #[.int .i64 0, .int .i64 0], .bool false]) (by simp [results, Try.results49, go_sem, c6, c7]) rfl ⟨rfl, ?_⟩
        exact (AF.out.box.bel.setCell (by simp; omega) _).setCell (by simp; omega) _
      | true =>
        by_cases hle : t.hi ≤ ack
        · have h1 : it = true := by rw [HT.out]; simp [hle]
          obtain rfl := HY.out h1
          clear h1 HT HY HO KW
          go_wp2
          refine bodyPost_ret (v := .tuple #[.agg #[.int .i64 t.lo, .int .i64 t.hi], .bool true]) (by simp [results, Try.results49, go_sem, c6, c7]) rfl ⟨rfl, ?_⟩
          exact (AF.out.box.bel.setCell (by simp; omega) _).setCell (by simp; omega) _
        · have h1 : it = wb := by rw [HT.out]; simp [hle]
          subst h1
          have hle2 : ack < t.hi := by omega
          have KK := Lib.hid (KW.out W3 _ _ _ _ (HR.out.below AF.out.box.bel) c5 ⟨c8, c9⟩ c4 c3)
          go_wp2_with fail
          refine KK.out.mono ?_
          rintro e w4 ⟨rfl, b4⟩
          have T4 := Lib.hid (AF.out.box.below b4)
          have A4 := Lib.hid (at2_call AF.out.at8 b4)
          clear c3 c4 c5 c6 c7 f6 c8 c9 b4
          have c6 : w4.cell? ⟨w.heap.size + 1 + 1 + 1, 0, Option.none⟩ = some (.int .i64 0) := T4.out.c6.cell 0
          have c7 : w4.cell? ⟨w.heap.size + 1 + 1 + 1, 1, Option.none⟩ = some (.int .i64 0) := T4.out.c6.cell 1
          have f6 : ∀ i, w4.frozen? ⟨w.heap.size + 1 + 1 + 1, i, Option.none⟩ = false := T4.out.c6.frozen
          obtain ⟨c8, c9⟩ := A4.out
          cases it with
          | false =>
            obtain rfl := HO.out rfl
            go_wp2
            refine bodyPost_ret (v := .tuple #[.agg #[.int .i64 0, .int .i64 0], .bool false]) (by simp [results, Try.results49, go_sem, c6, c7]) rfl ⟨rfl, ?_⟩
            exact (T4.out.bel.setCell (by simp; omega) _).setCell (by simp; omega) _
          | true =>
            obtain rfl := HY.out rfl
            go_wp2
            refine bodyPost_ret (v := .tuple #[.agg #[.int .i64 t.lo, .int .i64 t.hi], .bool true]) (by simp [results, Try.results49, go_sem, c6, c7]) rfl ⟨rfl, ?_⟩
            exact (T4.out.bel.setCell (by simp; omega) _).setCell (by simp; omega) _
end Go.Proofs.Ytaokiocpfpdmkaa.Dups
