/- Chapter 02 (octet): what must come of fixed calls; the document's numbers. -/
import Derived.Test.YtfbjmaajdblbfaaOctMore
set_option linter.unusedSimpArgs false
set_option linter.unusedVariables false
attribute [local go_sem ↓] Go.wp_at_zero Go.wp_at_succ
namespace Go.Proofs.Ytfbjmaajdblbfaa.Oct
open Go.RowKit Go.OpenShut Go.Proofs.Ytfbjmaajdblbfaa.Aid
/-- A writer of the call's own. -/
structure Wr (w W : World) (g : Nat) (v : Value) (xs : List Int) : Prop where
  isW : IsW W g v xs
  gb : w.heap.size ≤ g
  vb : ∀ k, v.ownBlock = some k → w.heap.size ≤ k
  bel : Below w.heap.size w W
theorem wr_new (w W : World) (hb : Below w.heap.size w W) : Wr w (W.alloc (.cells #[.slice none 0 0] 47)) W.heap.size (.slice none 0 0) [] :=
  ⟨⟨Blk.new W 47 _, row_nil _, by simp [Value.ownBlock]⟩, hb.size, by simp [Value.ownBlock], hb.alloc hb.size _⟩
theorem Wr.puts {w W W' : World} {g : Nat} {v v' : Value} {xs ys : List Int} (h : Wr w W g v xs) (d : From_ W W' g v v' ys) : Wr w W' g v' ys := by
  have hs := h.bel.size
  refine ⟨d.isW, h.gb, fun k e => ?_, ⟨d.kept.os.trans h.bel.os, d.kept.tape.trans h.bel.tape, d.kept.output.trans h.bel.output, Nat.le_trans hs d.kept.size, fun k hlt => ?_⟩⟩
  · rcases d.own k e with h2 | h2
    · exact h.vb k h2
    · omega
  · refine (d.kept.block k (by omega) (by have := h.gb; omega) (fun e => ?_)).trans (h.bel.block k hlt)
    have := h.vb k e
    omega
theorem Wr.below {w W W' : World} {g : Nat} {v : Value} {xs : List Int} (h : Wr w W g v xs) (hb : Below W.heap.size W W') : Wr w W' g v xs := ⟨isW_below h.isW hb, h.gb, h.vb, below_then h.bel h.bel.size hb⟩
theorem reps_six {W : World} {H : Nat} {ty : TypeId} {a b c d e f : Int} (h : W.heap[H]? = some (.cells #[.int .u8 a, .int .u8 b, .int .u8 c, .int .u8 d, .int .u8 e, .int .u8 f] ty (0, 0))) : Reps W (some ⟨H, 0, none⟩) 1 encB [a, b, c, d, e, f] := by
  have hb : Blk W H ty #[.int .u8 a, .int .u8 b, .int .u8 c, .int .u8 d, .int .u8 e, .int .u8 f] := h
  intro i x hx
  refine ⟨_, rfl, hb.lt, fun j v hv => ?_⟩
  match j, hv with
  | j + 1, hv => simp [encB] at hv
  | 0, hv =>
    simp [encB] at hv
    subst hv
    rw [add0]
    match i, hx with
    | 0, hx => simp at hx; subst hx; exact hb.cell 0
    | 1, hx => simp at hx; subst hx; exact hb.cell 1
    | 2, hx => simp at hx; subst hx; exact hb.cell 2
    | 3, hx => simp at hx; subst hx; exact hb.cell 3
    | 4, hx => simp at hx; subst hx; exact hb.cell 4
    | 5, hx => simp at hx; subst hx; exact hb.cell 5
    | i + 6, hx => simp at hx
set_option maxRecDepth 100000 in
set_option maxHeartbeats 4000000 in
theorem known_calls (w : World) : Calls Try.prog 34 #[] w (Gives w (.bool true)) := by
  have W0 := Lib.hid (wr_new w w (Below.refl _ _))
  go_enter Try.func34, Try.ntmps34
  go_wp2_with fail
  refine (four_calls _ _ [] 1 _ W0.out.isW (by simp) (by omega) (by omega)).mono ?_
  rintro e w1 ⟨rfl, v1, h1⟩
  have W1 := Lib.hid (W0.out.puts h1)
  clear h1
  go_wp2_with fail
  refine (two_calls _ v1 _ 258 _ W1.out.isW (by simp [bes_len]) (by omega) (by omega)).mono ?_
  rintro e w2 ⟨rfl, v2, h2⟩
  have W2 := Lib.hid (W1.out.puts h2)
  clear h2
  have hb : [] ++ bes 1 4 0 ++ bes 258 2 0 = [0, 0, 0, 1, 1, 2] := by decide
  rw [hb] at W2
  clear hb
  go_wp2_with fail
  refine (bytes_calls _ v2 _ _ W2.out.isW (by simp) (by simp)).mono ?_
  rintro e w3 ⟨v3, rfl, hr, b3, _⟩
  obtain ⟨A, cap, rfl, _, hR⟩ := hr.reps encB_len
  have R := Lib.hid (hR.below ((Below.refl _ w3).alloc (Nat.le_refl _) (.cells #[.int .u8 0, .int .u8 0, .int .u8 0, .int .u8 1, .int .u8 1, .int .u8 2] 5)))
  have W3 := Lib.hid ((W2.out.below b3).below ((Below.refl _ w3).alloc (Nat.le_refl _) (.cells #[.int .u8 0, .int .u8 0, .int .u8 0, .int .u8 1, .int .u8 1, .int .u8 2] 5)))
  clear hr hR b3
  go_wp2_with fail
  refine (same_calls A (some ⟨w3.heap.size, 0, none⟩) cap 6 [0, 0, 0, 1, 1, 2] _ R.out (reps_six (heap_alloc_new w3 _)) (by simp)).mono ?_
  rintro e w4 ⟨rfl, b4⟩
  have W4 := Lib.hid (W3.out.below b4)
  clear b4
  go_wp2_with fail
  refine (len_calls _ v2 _ _ W4.out.isW (by simp)).mono ?_
  rintro e w5 ⟨rfl, rfl⟩
  go_wp2
  go_ret
  exact ⟨rfl, W4.out.bel⟩
end Go.Proofs.Ytfbjmaajdblbfaa.Oct
