/- Chapter 10 (dup): what the document says of the first block, and of an acknowledgement. -/
import Derived.Test.YtaokiocpfpdmkaaLook
import Derived.Test.YtaokiocpfpdmkaaSpanHoldsRef
set_option linter.unusedSimpArgs false
set_option linter.unusedVariables false
attribute [local go_sem ↓] Go.wp_at_zero Go.wp_at_succ
namespace Go.Proofs.Ytaokiocpfpdmkaa.Dups
open Go.BigFrame Go.RowKit Go.OpenShut Go.Proofs.Ytaokiocpfpdmkaa.Aid Go.Proofs.Ytaokiocpfpdmkaa.Spans
open Led (encS encS_len encS_one info26 row_alloc row_drew src_one)
theorem isF_fsp {a : Int} {b : Block} (h : isF a b = true) : 0 ≤ (fsp a b).lo ∧ (fsp a b).lo < (fsp a b).hi ∧ (fsp a b).hi ≤ 4611686018427387904 ∧ (fsp a b).hi ≤ (fsp a b).lo + 65536 ∧ (fsp a b).lo = unw a b.l := by
  obtain ⟨h1, h2, h3, h4⟩ := of_decide_eq_true h
  unfold fsp
  rw [if_pos h1]
  exact ⟨h1, by simp only; omega, h4, by simp only; omega, rfl⟩
theorem len_of {s : Span} (h1 : 0 ≤ s.lo) (h2 : s.lo < s.hi) (h3 : s.hi ≤ 4611686018427387904) : len s = s.hi - s.lo := by
  unfold len
  rcases plain_spec s with ⟨_, _, _, e1, e2⟩ | ⟨h, _⟩
  · rw [e1, e2]
  · omega
theorem len_rsp (a : Int) (b : Block) : (isF a b = true ∧ 0 < len (rsp a b) ∧ rsp a b = fsp a b) ∨ (isF a b = false ∧ len (rsp a b) = 0 ∧ rsp a b = ⟨0, 0⟩) := by
  unfold rsp
  cases h : isF a b with
  | true =>
    obtain ⟨h1, h2, h3, _, _⟩ := isF_fsp h
    refine .inl ⟨rfl, ?_, rfl⟩
    rw [if_pos rfl, len_of h1 h2 h3]
    omega
  | false =>
    refine .inr ⟨rfl, ?_, rfl⟩
    rw [if_neg (by decide)]
    decide
structure RBox (w W : World) (g : Nat) (s : Span) : Prop where
  res : Blk W w.heap.size 26 #[.int .i64 0, .int .i64 0]
  box : At2 W g s
  ge : w.heap.size < g
  bel : Below w.heap.size w W
theorem rbox_new {w w1 : World} {s : Span} (hb : Below (w.alloc (.cells #[.int .i64 0, .int .i64 0] 26)).heap.size (w.alloc (.cells #[.int .i64 0, .int .i64 0] 26)) w1) : RBox w (w1.alloc (.cells #[.int .i64 s.lo, .int .i64 s.hi] 26)) w1.heap.size s := by
  have h1 : Blk w1 w.heap.size 26 #[.int .i64 0, .int .i64 0] := (Blk.new w 26 _).below hb (by simp)
  exact ⟨h1.alloc _, at2_new rfl, h1.lt, bn_alloc (below1 hb) _⟩
theorem RBox.below {w W W' : World} {g : Nat} {s : Span} (h : RBox w W g s) (hb : Below W.heap.size W W') : RBox w W' g s := ⟨h.res.below hb h.res.lt, at2_call h.box hb, h.ge, below_then h.bel h.bel.size hb⟩
theorem tsp_zero {ack nxt : Int} {l : List Block} (h : isT ack nxt l = false) : tsp ack nxt l = ⟨0, 0⟩ := by
  unfold tsp
  rw [h]
  rfl
theorem tsp_some {ack nxt : Int} {x : Block} {r : List Block} (h : isT ack nxt (x :: r) = true) : tsp ack nxt (x :: r) = fsp ack x := by
  unfold tsp
  rw [h]
  rfl
set_option maxHeartbeats 2000000 in
theorem rdup_calls (ack nxt : Int) (l : List Block) (A : Option Addr) (c : Nat) (w : World) (hn : l.length ≤ maxLen) (hw : ∀ b ∈ l, WfK b) (hr : Reps w A 2 encK l) :
    Calls Try.prog 52 #[.int .i64 ack, .int .i64 nxt, .slice A l.length c] w (Gives w (Agg2 (tsp ack nxt l))) := by
  unfold maxLen at hn
  rcases l with _ | ⟨x, r⟩
  · have e : tsp ack nxt [] = ⟨0, 0⟩ := rfl
    rw [e]
    simp only [List.length_nil]
    clear hw hr e
    go_enter Try.func52, Try.ntmps52
    go_wp2
    refine bodyPost_ret (v := .agg #[.int .i64 0, .int .i64 0]) (by simp [results, Try.results52, go_sem]) rfl ⟨rfl, ?_⟩
    exact (Below.refl _ w).alloc (Nat.le_refl _) _
  · have K := Lib.hid (fun W => formed_ref ack x W (hw x (by simp)))
    have L := Lib.hid (len_ref (rsp ack x))
    have R := Lib.hid hr
    have HWF := Lib.hid hw
    obtain ⟨ad, rfl, had, hc⟩ := hr 0 x rfl
    have a0 : w.cell? ad = some (.int .u32 x.l) := hc 0 _ rfl
    have a1 : w.cell? ⟨ad.block, ad.off + 1, Option.none⟩ = some (.int .u32 x.r) := by
      have := hc 1 _ rfl
      simpa [Addr.add] using this
    have hi1 : (0 : Int) < (r.length : Int) + 1 := by omega
    unfold Agg2 at K ⊢
    rcases len_rsp ack x with ⟨hF, h0, hs⟩ | ⟨hF, h0, hs⟩
    · rw [hs] at K L h0
      have hz : (len (fsp ack x) == 0) = false := by simp; omega
      by_cases hle : (fsp ack x).hi ≤ ack
      · rw [tsp_some (show isT ack nxt (x :: r) = true by simp [isT, hF, hle])]
        clear hw hr hc hs hF R HWF
        generalize len (fsp ack x) = z at *
        generalize fsp ack x = s at *
        go_enter Try.func52, Try.ntmps52
        go_wp2_with fail
        refine (K.out _).mono ?_
        rintro e w1 ⟨rfl, b1⟩
        have X1 := Lib.hid (rbox_new (s := s) b1)
        clear b1 a0 a1
        go_wp2_with fail
        refine (L.out _).mono ?_
        rintro e w2 ⟨rfl, b2⟩
        have X2 := Lib.hid (X1.out.below b2)
        clear b2
        obtain ⟨c0, c1⟩ := X2.out.box
        have y0 : w2.cell? ⟨w.heap.size, 0, Option.none⟩ = some (.int .i64 0) := X2.out.res.cell 0
        have y1 : w2.cell? ⟨w.heap.size, 1, Option.none⟩ = some (.int .i64 0) := X2.out.res.cell 1
        have yf := X2.out.res.frozen
        go_wp2
        refine bodyPost_ret (v := .agg #[.int .i64 s.lo, .int .i64 s.hi]) (by simp [results, Try.results52, go_sem, y0, y1]) rfl ⟨rfl, ?_⟩
        exact (X2.out.bel.setCell (Nat.le_refl _) _).setCell (Nat.le_refl _) _
      · have eT : isT ack nxt (x :: r) = wth ack nxt (fsp ack x) (x :: r) := by simp [isT, hF, hle]
        by_cases hn2 : 0 < r.length ∧ (fsp ack x).hi ≤ nxt
        · obtain ⟨hn2, hn3⟩ := hn2
          obtain ⟨y, r2, rfl⟩ : ∃ y r2, r = y :: r2 := by
            cases r with
            | nil => simp at hn2
            | cons y r2 => exact ⟨y, r2, rfl⟩
          have eT2 : isT ack nxt (x :: y :: r2) = (isF ack y && holds (fsp ack y) (fsp ack x)) := by rw [eT]; simp [wth, hn3]
          have ET := Lib.hid eT2
          have TS := Lib.hid (fun h => tsp_some (ack := ack) (nxt := nxt) (x := x) (r := y :: r2) h)
          have TZ := Lib.hid (fun h => tsp_zero (ack := ack) (nxt := nxt) (l := x :: y :: r2) h)
          have KY := Lib.hid (fun W => formed_ref ack y W (HWF.out y (by simp)))
          have LY := Lib.hid (len_ref (rsp ack y))
          have HH := Lib.hid (rholds_calls (rsp ack y) (fsp ack x))
          have LR := Lib.hid (len_rsp ack y)
          unfold Agg2 at KY
          have hn4 : (1 : Int) < ((y :: r2).length : Int) + 1 := by simp; omega
          simp only [List.length_cons] at hi1 hn hn4 ⊢
          clear hw hr hc hs hF eT eT2 HWF
          generalize isT ack nxt (x :: y :: r2) = it at *
          generalize tsp ack nxt (x :: y :: r2) = ts at *
          generalize len (fsp ack x) = z at *
          generalize fsp ack x = s at *
          go_enter Try.func52, Try.ntmps52
          go_wp2_with fail
          refine (K.out _).mono ?_
          rintro e w1 ⟨rfl, b1⟩
          have X1 := Lib.hid (rbox_new (s := s) b1)
          clear b1 a0 a1
          go_wp2_with fail
          refine (L.out _).mono ?_
          rintro e w2 ⟨rfl, b2⟩
          have X2 := Lib.hid (X1.out.below b2)
          clear b2
          obtain ⟨c0, c1⟩ := X2.out.box
          obtain ⟨ad', e', _, hc⟩ := (R.out.below X2.out.bel) 1 y rfl
          cases e'
          have d0 : w2.cell? ⟨ad.block, ad.off + 2, Option.none⟩ = some (.int .u32 y.l) := hc 0 _ rfl
          have d1 : w2.cell? ⟨ad.block, ad.off + 2 + 1, Option.none⟩ = some (.int .u32 y.r) := hc 1 _ rfl
          clear hc
          go_wp2_with fail
          refine (KY.out _).mono ?_
          rintro e w3 ⟨rfl, b3⟩
          have X3 := Lib.hid ((X2.out.below b3).below ((Below.refl _ w3).alloc (Nat.le_refl _) (.cells #[.int .i64 (rsp ack y).lo, .int .i64 (rsp ack y).hi] 26)))
          have T3 := Lib.hid (at2_new (W := w3) (s := rsp ack y) rfl)
          clear b3 c0 c1 d0 d1
          go_wp2_with fail
          refine (LY.out _).mono ?_
          rintro e w4 ⟨rfl, b4⟩
          have X4 := Lib.hid (X3.out.below b4)
          have T4 := Lib.hid (at2_call T3.out b4)
          clear b4
          obtain ⟨c0, c1⟩ := X4.out.box
          obtain ⟨d0, d1⟩ := T4.out
          have y0 : w4.cell? ⟨w.heap.size, 0, Option.none⟩ = some (.int .i64 0) := X4.out.res.cell 0
          have y1 : w4.cell? ⟨w.heap.size, 1, Option.none⟩ = some (.int .i64 0) := X4.out.res.cell 1
          have yf := X4.out.res.frozen
          rcases LR.out with ⟨gF, g0, gs⟩ | ⟨gF, g0, gs⟩
          · have g1 : decide (0 < len (rsp ack y)) = true := decide_eq_true g0
            have EI := Lib.hid (show it = holds (rsp ack y) s by rw [ET.out, gF, gs]; rfl)
            generalize len (rsp ack y) = zy at *
            generalize holds (rsp ack y) s = hd at *
            generalize rsp ack y = sy at *
            clear gF gs y0 y1 yf LR ET
            go_wp2_with fail
            refine (HH.out _).mono ?_
            rintro e w5 ⟨rfl, b5⟩
            have X5 := Lib.hid (X4.out.below b5)
            clear c0 c1 d0 d1 b5
            obtain ⟨c0, c1⟩ := X5.out.box
            have y0 : w5.cell? ⟨w.heap.size, 0, Option.none⟩ = some (.int .i64 0) := X5.out.res.cell 0
            have y1 : w5.cell? ⟨w.heap.size, 1, Option.none⟩ = some (.int .i64 0) := X5.out.res.cell 1
            have yf := X5.out.res.frozen
            cases hd with
            | true =>
              obtain rfl := TS.out EI.out
              go_wp2
              refine bodyPost_ret (v := .agg #[.int .i64 ts.lo, .int .i64 ts.hi]) (by simp [results, Try.results52, go_sem, y0, y1]) rfl ⟨rfl, ?_⟩
              exact (X5.out.bel.setCell (Nat.le_refl _) _).setCell (Nat.le_refl _) _
            | false =>
              obtain rfl := TZ.out EI.out
              go_wp2
              refine bodyPost_ret (v := .agg #[.int .i64 0, .int .i64 0]) (by simp [results, Try.results52, go_sem, y0, y1]) rfl ⟨rfl, ?_⟩
              exact (X5.out.bel.setCell (Nat.le_refl _) _).setCell (Nat.le_refl _) _
          · have g1 : decide (0 < len (rsp ack y)) = false := by rw [g0]; decide
            obtain rfl := TZ.out (by rw [ET.out, gF]; rfl)
            rw [g0] at g1 ⊢
            clear gF gs LR ET g0
            go_wp2
            refine bodyPost_ret (v := .agg #[.int .i64 0, .int .i64 0]) (by simp [results, Try.results52, go_sem, y0, y1]) rfl ⟨rfl, ?_⟩
            exact (X4.out.bel.setCell (Nat.le_refl _) _).setCell (Nat.le_refl _) _
        · have eZ : isT ack nxt (x :: r) = false := by
            rw [eT]
            cases r with
            | nil => rfl
            | cons y r2 =>
              have : ¬ (fsp ack x).hi ≤ nxt := fun h => hn2 ⟨by simp, h⟩
              simp [wth, this]
          rw [tsp_zero eZ]
          have hcs : ¬ (1 : Int) < (r.length : Int) + 1 ∨ ((1 : Int) < (r.length : Int) + 1 ∧ ¬ (fsp ack x).hi ≤ nxt) := by omega
          clear hw hr hc hs hF R HWF eT eZ hn2
          generalize len (fsp ack x) = z at *
          generalize fsp ack x = s at *
          rcases hcs with g1 | ⟨g1, g2⟩
          all_goals
            go_enter Try.func52, Try.ntmps52
            go_wp2_with fail
            refine (K.out _).mono ?_
            rintro e w1 ⟨rfl, b1⟩
            have X1 := Lib.hid (rbox_new (s := s) b1)
            clear b1 a0 a1
            go_wp2_with fail
            refine (L.out _).mono ?_
            rintro e w2 ⟨rfl, b2⟩
            have X2 := Lib.hid (X1.out.below b2)
            clear b2
            obtain ⟨c0, c1⟩ := X2.out.box
            have y0 : w2.cell? ⟨w.heap.size, 0, Option.none⟩ = some (.int .i64 0) := X2.out.res.cell 0
            have y1 : w2.cell? ⟨w.heap.size, 1, Option.none⟩ = some (.int .i64 0) := X2.out.res.cell 1
            have yf := X2.out.res.frozen
            go_wp2
            refine bodyPost_ret (v := .agg #[.int .i64 0, .int .i64 0]) (by simp [results, Try.results52, go_sem, y0, y1]) rfl ⟨rfl, ?_⟩
            exact (X2.out.bel.setCell (Nat.le_refl _) _).setCell (Nat.le_refl _) _
    · rw [hs] at K L h0
      rw [tsp_zero (show isT ack nxt (x :: r) = false by simp [isT, hF])]
      rw [h0] at L
      clear hw hr hc hs hF R HWF h0
      go_enter Try.func52, Try.ntmps52
      go_wp2_with fail
      refine (K.out _).mono ?_
      rintro e w1 ⟨rfl, b1⟩
      have X1 := Lib.hid (rbox_new (s := ⟨0, 0⟩) b1)
      clear b1 a0 a1
      go_wp2_with fail
      refine (L.out _).mono ?_
      rintro e w2 ⟨rfl, b2⟩
      have X2 := Lib.hid (X1.out.below b2)
      clear b2
      obtain ⟨c0, c1⟩ := X2.out.box
      have y0 : w2.cell? ⟨w.heap.size, 0, Option.none⟩ = some (.int .i64 0) := X2.out.res.cell 0
      have y1 : w2.cell? ⟨w.heap.size, 1, Option.none⟩ = some (.int .i64 0) := X2.out.res.cell 1
      have yf := X2.out.res.frozen
      go_wp2
      refine bodyPost_ret (v := .agg #[.int .i64 0, .int .i64 0]) (by simp [results, Try.results52, go_sem, y0, y1]) rfl ⟨rfl, ?_⟩
      exact (X2.out.bel.setCell (Nat.le_refl _) _).setCell (Nat.le_refl _) _
end Go.Proofs.Ytaokiocpfpdmkaa.Dups
