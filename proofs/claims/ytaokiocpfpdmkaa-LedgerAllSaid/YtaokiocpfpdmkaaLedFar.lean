/- Chapter 19 (ledger), plain: if no span of a list holds another one, each lets just itself go. -/
import Derived.Test.YtaokiocpfpdmkaaLedPair
namespace Go.Proofs.Ytaokiocpfpdmkaa.Led
open Go.BigFrame Go.RowKit Go.OpenShut Go.Proofs.Ytaokiocpfpdmkaa.Aid Go.Proofs.Ytaokiocpfpdmkaa.Spans
/-- No one of a list holds another one; each holds itself. -/
def Far : List Span → Prop
  | [] => True
  | x :: r => holds x x = true ∧ (∀ y ∈ r, holds x y = false ∧ holds y x = false) ∧ Far r
theorem goes_far (s : Span) : ∀ xs : List Span, Far xs → s ∈ xs → goes s xs = xs.erase s ∧ any s xs = true ∧ Far (xs.erase s)
  | x :: r, h, hs => by
    by_cases e : x = s
    · subst e
      refine ⟨by simp [goes, h.1], by simp [any, h.1], ?_⟩
      simpa using h.2.2
    · have hr : s ∈ r := by
        rcases List.mem_cons.1 hs with e2 | e2
        · exact absurd e2.symm e
        · exact e2
      obtain ⟨h1, h2, h3⟩ := goes_far s r h.2.2 hr
      have hn := (h.2.1 s hr).2
      have he : (x :: r).erase s = x :: r.erase s := by rw [List.erase_cons_tail (by simpa using e)]
      refine ⟨by rw [he]; simp [goes, hn, h1], ?_, ?_⟩
      · unfold any at h2 ⊢
        simp only [List.any_cons, h2, Bool.or_true]
      · rw [he]
        exact ⟨h.1, fun y hy => h.2.1 y (List.mem_of_mem_erase hy), h3⟩
theorem perm_set_set (xs : List Span) (i k : Nat) (x y : Span) (hx : xs[i]? = some x) (hy : xs[k]? = some y) : ((xs.set i y).set k x).Perm xs := by
  have hi : i < xs.length := (List.getElem?_eq_some_iff.1 hx).1
  have hk : k < xs.length := (List.getElem?_eq_some_iff.1 hy).1
  have h := Array.swap_perm (xs := xs.toArray) (i := i) (j := k) (by simpa) (by simpa)
  have h2 := Array.perm_iff_toList_perm.1 h
  have ex : xs[i] = x := (List.getElem?_eq_some_iff.1 hx).2
  have ey : xs[k] = y := (List.getElem?_eq_some_iff.1 hy).2
  simpa [Array.swap, ex, ey] using h2
def Fine (s : Span) : Prop := 0 ≤ s.lo ∧ s.lo < s.hi ∧ s.hi ≤ 25600
theorem fine_plain {s : Span} (h : Fine s) : Spans.plain s = s ∧ Spans.none s = false := by
  obtain ⟨a, b, c⟩ := h
  have e : Spans.plain s = s := by
    unfold Spans.plain
    rw [if_pos ⟨⟨a, by omega, by omega⟩, by omega⟩]
  refine ⟨e, ?_⟩
  unfold Spans.none
  rw [e]
  refine decide_eq_false fun h => ?_
  rw [h] at b
  exact absurd b (by decide)
theorem fine_len {s : Span} (h : Fine s) : len s ≠ 0 := by
  unfold len
  rw [(fine_plain h).1]
  have := h.2.1
  omega
theorem fine_holds {s t : Span} (h : Fine s) (k : Fine t) : holds s t = (decide (s.lo ≤ t.lo) && decide (t.hi ≤ s.hi)) := by
  unfold holds
  rw [(fine_plain h).1, (fine_plain k).1, (fine_plain k).2]
  rfl
theorem fine_self {s : Span} (h : Fine s) : holds s s = true := by rw [fine_holds h h]; simp
theorem fine_apart {s t : Span} (h : Fine s) (k : Fine t) (hk : s.hi ≤ t.lo) : holds s t = false ∧ holds t s = false := by
  rw [fine_holds h k, fine_holds k h]
  have h1 := h.2.1
  have h2 := k.2.1
  constructor <;> rw [Bool.eq_false_iff] <;> simp <;> omega
/-- What was sent, one behind the other. -/
structure Good (k : Nat) (xs : List Span) : Prop where
  len : xs.length = k
  far : Far xs
  fine : ∀ x ∈ xs, Fine x ∧ x.hi ≤ 100 * k
theorem far_snoc (s : Span) : ∀ xs : List Span, Far xs → holds s s = true → (∀ x ∈ xs, holds x s = false ∧ holds s x = false) → Far (xs ++ [s])
  | [], _, h, _ => ⟨h, by simp, trivial⟩
  | x :: r, h, hs, ha => ⟨h.1, fun y hy => by
      rcases List.mem_append.1 hy with e | e
      · exact h.2.1 y e
      · rw [List.mem_singleton.1 e]; exact ha x List.mem_cons_self, far_snoc s r h.2.2 hs (fun y hy => ha y (List.mem_cons_of_mem _ hy))⟩
theorem Good.snoc {k : Nat} {xs : List Span} {s : Span} (h : Good k xs) (h1 : s.lo = 100 * k) (h2 : s.lo < s.hi) (h3 : s.hi ≤ 100 * (k : Int) + 100) (hk : k < 256) : Good (k + 1) (xs ++ [s]) := by
  have hf : Fine s := ⟨by omega, h2, by omega⟩
  refine ⟨by rw [List.length_append, h.len]; rfl, far_snoc s xs h.far (fine_self hf) fun x hx => ?_, fun x hx => ?_⟩
  · obtain ⟨a, b⟩ := h.fine x hx
    exact fine_apart a hf (by omega)
  · rcases List.mem_append.1 hx with e | e
    · obtain ⟨a, b⟩ := h.fine x e
      exact ⟨a, by omega⟩
    · rw [List.mem_singleton.1 e]
      exact ⟨hf, by omega⟩
/-- The document's list is appended to. -/
theorem Pair.app {w W W' : World} {g : Nat} {v u u' : Value} {L M M' : Led} (h : Pair w W g v u L M) (hr : RowOf 26 2 encS W' u' M'.list) (ha : App W W' u u') : Pair w W' g v u' L M' := by
  have hg : u.ownBlock ≠ some g := fun e => (h.own g e).2.1 rfl
  have hlt := h.st.led.box.lt
  have hs := h.st.bel.size
  refine ⟨⟨⟨(ha.block g hlt hg).trans h.st.led.box, h.st.led.row.same fun k hk => ha.block k (h.st.led.row.lt k hk) (fun e => (h.own k e).2.2 hk), h.st.led.apart⟩, h.st.gb, h.st.vb, ⟨ha.os.trans h.st.bel.os, ha.tape.trans h.st.bel.tape, ha.output.trans h.st.bel.output, Nat.le_trans hs ha.size, fun k hk => (ha.block k (by omega) (fun e => by
    have := (h.own k e).1
    omega)).trans (h.st.bel.block k hk)⟩⟩, hr, fun b e => ?_⟩
  rcases ha.own b e with h1 | h1
  · exact h.own b h1
  · refine ⟨by omega, by omega, fun e2 => ?_⟩
    have := h.st.led.row.lt b e2
    omega
def Sent (w : World) (g k : Nat) (u : Value) (W : World) : Prop := ∃ v L, Pair w W g v u L L ∧ Good k L.list ∧ L.opn = false ∧ L.spilt = false
theorem Pair.again {w W : World} {g : Nat} {v u : Value} {L M M' : Led} (h : Pair w W g v u L M) (e : M.list = M'.list) : Pair w W g v u L M' := ⟨h.st, e ▸ h.row, h.own⟩
theorem flat_set : ∀ (xs : List Span) (i : Nat) (s : Span), i < xs.length → ((xs.flatMap encS).set (i * 2) (.int .i64 s.lo)).set (i * 2 + 1) (.int .i64 s.hi) = (xs.set i s).flatMap encS
  | x :: r, 0, s, _ => rfl
  | x :: r, i + 1, s, h => by
    have ih := flat_set r i s (by simpa using h)
    rw [List.set_cons_succ, List.flatMap_cons, List.flatMap_cons, ← ih]
    rw [show (i + 1) * 2 = i * 2 + 1 + 1 by omega]
    rfl
/-- One element of an own row is put. -/
theorem row_put {W : World} {b n cap : Nat} {xs : List Span} (h : RowOf 26 2 encS W (.slice (some ⟨b, 0, Option.none⟩) n cap) xs) (i : Nat) (s : Span) (hi : i < xs.length) :
    RowOf 26 2 encS ((W.setCell ⟨b, i * 2, Option.none⟩ (.int .i64 s.lo)).setCell ⟨b, i * 2 + 1, Option.none⟩ (.int .i64 s.hi)) (.slice (some ⟨b, 0, Option.none⟩) n cap) (xs.set i s) := by
  obtain ⟨h0, _⟩ | ⟨b', cap', cur, h0, h1, h2, h3, h4, h5⟩ := h
  · cases h0
  · injection h0 with h0 h6 h7
    obtain rfl : b = b' := by simpa using h0
    subst h6 h7
    have hB : Blk W b 26 cur := h3
    have hB2 := (hB.set_ (i * 2) (.int .i64 s.lo)).set_ (i * 2 + 1) (.int .i64 s.hi)
    refine .inr ⟨b, cap, _, by rw [List.length_set], by rw [List.length_set]; exact h1, h2, hB2, by simpa using h4, ?_⟩
    rw [List.length_set, Array.toList_setIfInBounds, Array.toList_setIfInBounds, List.take_set, List.take_set, h5, flat_set xs i s hi]
theorem app_set {W W' : World} {b n cap : Nat} (h : App W W' (.slice (some ⟨b, 0, Option.none⟩) n cap) (.slice (some ⟨b, 0, Option.none⟩) n cap)) (o : Nat) (x : Value) :
    App W (W'.setCell ⟨b, o, Option.none⟩ x) (.slice (some ⟨b, 0, Option.none⟩) n cap) (.slice (some ⟨b, 0, Option.none⟩) n cap) :=
  ⟨h.os, h.tape, h.output, by simpa [World.setCell] using h.size, fun k hk hne => (Below.heap_setCell W' _ x k (fun e => hne (by rw [e]; rfl))).trans (h.block k hk hne), fun k hk => .inl hk, fun e => e⟩
theorem app_drew {W W' : World} {v v' : Value} (h : App W W' v v') : App W W'.drew v v' := ⟨h.os, h.tape, h.output, h.size, h.block, h.own, h.live⟩
end Go.Proofs.Ytaokiocpfpdmkaa.Led
