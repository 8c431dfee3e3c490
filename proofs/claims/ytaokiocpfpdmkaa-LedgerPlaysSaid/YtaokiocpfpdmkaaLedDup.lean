/- Chapter 19 (ledger): the walk of Dup: the first that a span holds is let go. -/
import Derived.Test.YtaokiocpfpdmkaaLedMore
import Derived.Test.YtaokiocpfpdmkaaSpanHolds
import Derived.IntWalk
attribute [local go_sem ↓] Go.wp_at_zero Go.wp_at_succ
namespace Go.Proofs.Ytaokiocpfpdmkaa.Led
open Go.BigFrame Go.RowKit Go.OpenShut Go.Proofs.Ytaokiocpfpdmkaa.Aid Go.Proofs.Ytaokiocpfpdmkaa.Spans
theorem pred_calls (s x : Span) (gs : Nat) (w : World) (h : At2 w gs s) : Calls Try.prog 61 #[.agg #[.int .i64 x.lo, .int .i64 x.hi], .pointer (some ⟨gs, 0, none⟩)] w (Gives w (.bool (holds s x))) := by
  have K := Lib.hid (holds_calls s x)
  obtain ⟨c0, c1⟩ := at2_alloc h (.cells #[.int .i64 x.lo, .int .i64 x.hi] 26)
  generalize holds s x = b at *
  go_enter Try.func61, Try.ntmps61
  go_wp2_with (refine (K.out _).mono ?_; rintro e w1 ⟨rfl, hb⟩)
  go_ret
  exact ⟨rfl, below1 hb⟩
/-- The first that s holds, or -1. -/
def IsIdx (s : Span) (xs : List Span) (i : Int) : Prop := (i = -1 ∧ ∀ x ∈ xs, holds s x = false) ∨ ∃ (k : Nat) (x : Span), i = k ∧ xs[k]? = some x ∧ holds s x = true ∧ ∀ y ∈ xs.take k, holds s y = false
def Finds (s : Span) (xs : List Span) (w : World) (e : Ending) (w' : World) : Prop := ∃ i : Int, e = .returned (.int .i64 i) ∧ IsIdx s xs i ∧ Below w.heap.size w w'
set_option maxRecDepth 100000 in
set_option maxHeartbeats 4000000 in
theorem index_calls (s : Span) (gs : Nat) (A : Option Addr) (c : Nat) (xs : List Span) (w : World) (hl : xs.length ≤ 256) (hR : Aid.Reps w A 2 encS xs) (hs : At2 w gs s) :
    Calls Try.prog 60 #[.slice A xs.length c, .func (.func 61) #[] #[.pointer (some ⟨gs, 0, none⟩)]] w (Finds s xs w) := by
  have R := Lib.hid hR
  have S := Lib.hid hs
  clear hR hs
  go_enter Try.func60, Try.ntmps60
  go_wp2
  go_loopw [8] (fun i wr => ∃ k : Nat, k ≤ xs.length ∧ i = .int .i64 k ∧ Hid (∀ y ∈ xs.take k, holds s y = false) ∧ Hid (Below w.heap.size w wr)) (fun i _ => xs.length - (intOf i).toNat)
  case atStart => exact ⟨0, by omega, rfl, Lib.hid (by simp), Lib.hid (Below.refl _ _)⟩
  case round =>
    obtain ⟨k, hk, rfl, hN, hB⟩ := hrel
    by_cases hlt : k < xs.length
    · obtain ⟨x, hx⟩ : ∃ x, xs[k]? = some x := ⟨_, List.getElem?_eq_getElem hlt⟩
      obtain ⟨ad, rfl, had, hc⟩ := (R.out.below hB.out) k x hx
      have c0 : wr.cell? (ad.add (k * 2)) = some (.int .i64 x.lo) := hc 0 _ rfl
      have c1 : wr.cell? ⟨(ad.add (k * 2)).block, (ad.add (k * 2)).off + 1, none⟩ = some (.int .i64 x.hi) := (add_next ad (k * 2) 1 (by omega)) ▸ hc 1 _ rfl
      have P := Lib.hid (pred_calls s x gs wr (at2_call S.out (hB.out.mono (Nat.le_refl _))))
      have htk : xs.take (k + 1) = xs.take k ++ [x] := by rw [List.take_succ_eq_append_getElem hlt, (List.getElem?_eq_some_iff.1 hx).2]
      have HX := Lib.hid hx
      have HT := Lib.hid htk
      clear hc hx htk
      obtain ⟨b, hb⟩ : ∃ b, holds s x = b := ⟨_, rfl⟩
      rw [hb] at P
      have HBB := Lib.hid hb
      clear hb
      cases b with
      | true =>
        go_wp2_with (refine P.out.mono ?_; rintro e w1 ⟨rfl, b1⟩)
        go_ret
        exact ⟨_, rfl, .inr ⟨k, x, rfl, HX.out, HBB.out, hN.out⟩, below_then hB.out hB.out.size b1⟩
      | false =>
        go_wp2_with (refine P.out.mono ?_; rintro e w1 ⟨rfl, b1⟩)
        go_roundw
        case rel => exact ⟨k + 1, by omega, by go_num, Lib.hid (by
          rw [HT.out]
          intro y hy
          rcases List.mem_append.1 hy with hy | hy
          · exact hN.out y hy
          · rw [List.mem_singleton.1 hy]; exact HBB.out), Lib.hid (below_then hB.out hB.out.size b1)⟩
        case measure => simp [intOf]; omega
    · obtain rfl : k = xs.length := by omega
      go_wp2
      go_ret
      exact ⟨_, rfl, .inl ⟨rfl, by simpa using hN.out⟩, hB.out⟩
/-- The list without the first that s holds. -/
def goes (s : Span) : List Span → List Span
  | [] => []
  | x :: r => if holds s x = true then r else x :: goes s r
def any (s : Span) (xs : List Span) : Bool := xs.any (holds s)
theorem goes_none (s : Span) : ∀ xs : List Span, (∀ x ∈ xs, holds s x = false) → goes s xs = xs ∧ any s xs = false
  | [], _ => ⟨rfl, rfl⟩
  | x :: r, h => by
    obtain ⟨h1, h2⟩ := goes_none s r (fun y hy => h y (List.mem_cons_of_mem _ hy))
    have h3 := h x List.mem_cons_self
    refine ⟨by simp [goes, h3, h1], ?_⟩
    unfold any at h2 ⊢
    simp [h3, h2]
theorem goes_at (s : Span) : ∀ (xs : List Span) (k : Nat) (x : Span), xs[k]? = some x → holds s x = true → (∀ y ∈ xs.take k, holds s y = false) → goes s xs = xs.take k ++ xs.drop (k + 1) ∧ any s xs = true
  | [], k, x, hx, _, _ => by simp at hx
  | z :: r, 0, x, hx, hh, _ => by
    obtain rfl : z = x := by simpa using hx
    exact ⟨by simp [goes, hh], by simp [any, hh]⟩
  | z :: r, k + 1, x, hx, hh, h => by
    obtain ⟨h1, h2⟩ := goes_at s r k x (by simpa using hx) hh (fun y hy => h y (by simp [hy]))
    have h3 := h z (by simp)
    refine ⟨by simp [goes, h3, h1], ?_⟩
    unfold any at h2 ⊢
    simp only [List.any_cons, h2, Bool.or_true]
theorem kept_own {w w' : World} {g : Nat} {v v2 : Value} (h : Kept w w' g v) (e : v.ownBlock = v2.ownBlock) : Kept w w' g v2 := ⟨h.os, h.tape, h.output, h.size, fun k h1 h2 h3 => h.block k h1 h2 (by rw [e]; exact h3)⟩
theorem addo (b o j : Nat) : (⟨b, o, none⟩ : Addr).add j = ⟨b, o + j, none⟩ := by
  unfold Addr.add
  by_cases h : j = 0
  · subst h; rfl
  · simp [h]
theorem dup_none (s : Span) (w : World) : Calls Try.prog 27 #[.pointer none, .agg #[.int .i64 s.lo, .int .i64 s.hi]] w (Gives w (.bool false)) := by
  go_enter Try.func27, Try.ntmps27
  go_wp2
  go_ret
  exact ⟨rfl, (Below.refl _ _).alloc (Nat.le_refl _) _⟩
theorem dup_zero (g : Nat) (s : Span) (w : World) (hl : len s = 0) : Calls Try.prog 27 #[.pointer (some ⟨g, 0, none⟩), .agg #[.int .i64 s.lo, .int .i64 s.hi]] w (Gives w (.bool false)) := by
  have K := Lib.hid (len_calls s)
  rw [hl] at K
  clear hl
  go_enter Try.func27, Try.ntmps27
  go_wp2_with (go_at_call 56; refine (K.out _).mono ?_; rintro e w1 ⟨rfl, hb⟩)
  go_ret
  exact ⟨rfl, below1 hb⟩
set_option maxRecDepth 100000 in
set_option maxHeartbeats 4000000 in
theorem dup_calls (g : Nat) (v : Value) (L : Led) (s : Span) (w : World) (h : IsLed w g v L) (hl : len s ≠ 0) : Calls Try.prog 27 #[.pointer (some ⟨g, 0, none⟩), .agg #[.int .i64 s.lo, .int .i64 s.hi]] w (Does w g v (.bool (any s L.list)) ⟨L.opn, L.cwnd, L.thresh, goes s L.list, L.spilt⟩) := by
  obtain ⟨i0, hi, hz0, hz1, hz2⟩ := info_parts info26
  have K := Lib.hid (len_calls s)
  have hl1 : decide (len s = 0) = false := by simpa using hl
  have hl2 : (len s == 0) = false := by simpa using hl
  generalize len s = n at *
  have H := Lib.hid h
  have hll := h.row.1
  obtain ⟨A, cap, rfl, hcap, hR⟩ := h.row.2.reps encS_len
  have HR := Lib.hid hR
  have HT := Lib.hid (at2_new (W := w) (s := s) rfl)
  clear h hl hR
  go_enter Try.func27, Try.ntmps27
  go_wp2_with fail
  refine (K.out _).mono ?_
  rintro e w1 ⟨rfl, hb⟩
  have HL := Lib.hid (H.out.below (below1 hb))
  have T1 := Lib.hid (at2_call HT.out hb)
  have R1 := Lib.hid (HR.out.below (below1 hb))
  have c3 : w1.cell? ⟨g, 3, Option.none⟩ = some (.slice A L.list.length cap) := HL.out.box.cell 3
  have HB := Lib.hid (below1 hb)
  clear hb
  go_wp2_with fail
  refine (index_calls s _ A cap L.list w1 hll R1.out T1.out).mono ?_
  rintro e w2 ⟨i, rfl, hidx, hb2⟩
  have HL2 := Lib.hid (HL.out.below hb2)
  have HB2 := Lib.hid (below_then HB.out HB.out.size hb2)
  clear hb2 c3
  rcases hidx with ⟨rfl, hno⟩ | ⟨k, x, rfl, hx, hh, hbef⟩
  · obtain ⟨e1, e2⟩ := goes_none s L.list hno
    have E1 := Lib.hid e1
    have E2 := Lib.hid e2
    clear e1 e2 hno
    go_wp2
    go_ret
    exact ⟨by rw [E2.out]; rfl, _, by rw [E1.out]; exact HL2.out, kept_below (kept_refl _ _ _) HB2.out, fun k hk => .inl hk⟩
  · obtain ⟨e1, e2⟩ := goes_at s L.list k x hx hh hbef
    have hkn : k < L.list.length := (List.getElem?_eq_some_iff.1 hx).1
    have E1 := Lib.hid e1
    have E2 := Lib.hid e2
    have hg := HL2.out.box.lt
    clear e1 e2 hx hh hbef
    obtain ⟨h0, _⟩ | ⟨b, cap', cur, hv, r1, r2, r3, r4, r5⟩ := HL2.out.row.2
    · injection h0 with _ h1 _
      omega
    · injection hv with hv hv2 hv3
      subst hv hv3
      have c3 : w2.cell? ⟨g, 3, Option.none⟩ = some (.slice (some ⟨b, 0, Option.none⟩) L.list.length cap) := HL2.out.box.cell 3
      have fz : w2.frozen? ⟨g, 3, Option.none⟩ = false := HL2.out.box.frozen 3
      have hcut : RowOf 26 2 encS w2 (.slice (some ⟨b, 0, Option.none⟩) k k) (L.list.take k) := by
        refine .inr ⟨b, k, cur, by rw [List.length_take]; congr 1; omega, by rw [List.length_take]; omega, by omega, r3, by omega, ?_⟩
        rw [List.length_take, show min k L.list.length = k by omega]
        have := congrArg (List.take (k * 2)) r5
        rw [List.take_take, show min (k * 2) (L.list.length * 2) = k * 2 by omega] at this
        rw [this]
        have e : L.list = L.list.take k ++ L.list.drop k := (List.take_append_drop k _).symm
        conv => lhs; rw [e, List.flatMap_append]
        rw [List.take_append_of_le_length (by rw [length_flat encS 2 encS_len, List.length_take]; omega), List.take_of_length_le (by rw [length_flat encS 2 encS_len, List.length_take]; omega)]
      have HC := Lib.hid hcut
      have hsrc : ∀ j u, ((L.list.drop (k + 1)).flatMap encS)[j]? = some u → w2.cell? ⟨b, (k + 1) * 2 + j, Option.none⟩ = some u := by
        intro j u hu
        have e : L.list = L.list.take (k + 1) ++ L.list.drop (k + 1) := (List.take_append_drop (k + 1) _).symm
        refine HL2.out.row.2.cell encS_len _ u ?_
        rw [e, List.flatMap_append, List.getElem?_append_right (by rw [length_flat encS 2 encS_len, List.length_take]; omega), length_flat encS 2 encS_len, List.length_take]
        rw [show (k + 1) * 2 + j - min (k + 1) L.list.length * 2 = j by rw [show min (k + 1) L.list.length = k + 1 by omega]; omega]
        exact hu
      have HS := Lib.hid hsrc
      have k0 : (0 : Int) ≤ (k : Int) := by omega
      have k1 : (k : Int) ≤ (cap : Int) := by omega
      have k2 : (k : Int) + 1 ≤ (L.list.length : Int) := by omega
      have k3 : (L.list.length : Int) ≤ (cap : Int) := by omega
      have kw : IntKind.i64.wrap ((k : Int) + 1) = (k : Int) + 1 := IntWalk.i64_in _ (by omega)
      have kt : ((k : Int) + 1).toNat = k + 1 := by omega
      clear r1 r2 r3 r4 r5 hcut hsrc hcap
      have k4 : (0 : Int) ≤ (k : Int) + 1 := by omega
      by_cases hc1 : cap = k + 1
      · subst hc1
        have hn : L.list.length = k + 1 := by omega
        have hz : L.list.drop (k + 1) = [] := by rw [List.drop_eq_nil_iff]; omega
        have HZ := Lib.hid hz
        have HN := Lib.hid hn
        have hn0 : L.list.length - (k + 1) = 0 := by omega
        have k5 : (k : Int) ≤ (k : Int) + 1 := by omega
        clear hz hn
        go_wp2
        go_region_law ((refine step_append_row (by rfl) _ _ _ (by rfl) i0 _ 16 Try.underlying27 hi hz0 hz1 hz2 (by decide) (by decide) encS_len encS_one (.slice (some ⟨b, 0, Option.none⟩) k k) (L.list.take k) (by rfl) (row_drew HC.out) ⟨b, 0, Option.none⟩ 0 _ [] rfl (by rfl) (by intro j u hu; simp at hu) (by rw [List.length_take]; unfold maxLen; omega) (by rw [List.length_take]; omega) ?_; intro v' w' hr ha; obtain ⟨A', n', cap', rfl⟩ := hr.some_slice; have X : Blk w' g 102 (cells L (.slice (some ⟨b, 0, Option.none⟩) L.list.length (k + 1))) := (ha.block g hg HL2.out.apart).trans HL2.out.box; have x3 : w'.cell? ⟨g, 3, Option.none⟩ = some (.slice (some ⟨b, 0, Option.none⟩) L.list.length (k + 1)) := X.cell 3; have xf := X.frozen; have HA := Lib.hid ha; have HRR := Lib.hid hr; have HXX := Lib.hid X; clear X ha hr))
        all_goals
          go_wp2
          go_ret
          have hlw : ∀ k2, (Value.slice A' n' cap').ownBlock = some k2 → k2 ≠ g := fun k2 hk => by
            rcases HA.out.own k2 hk with h1 | h1
            · exact own_ne HL2.out k2 h1
            · have h2 : w2.heap.size ≤ k2 := h1
              omega
          refine ⟨by rw [E2.out]; rfl, .slice A' n' cap', ⟨(HXX.out.set_ 3 _).eq (by simp [cells]), ⟨by rw [E1.out, List.length_append, List.length_take, List.length_drop]; omega, ?_⟩, fun e => hlw g e rfl⟩, ?_, ?_⟩
          · show RowOf 26 2 encS _ _ (goes s L.list)
            rw [E1.out, HZ.out]
            exact HRR.out.same (fun k2 hk => Below.heap_setCell _ _ _ k2 (hlw k2 hk))
          · exact kept_own (v := .slice (some ⟨b, 0, Option.none⟩) k k) (kept_set (kept_app (below_drew HB2.out) HA.out) _ _) rfl
          · intro k2 hk
            rcases HA.out.own k2 hk with h1 | h1
            · exact .inl h1
            · have h2 : w2.heap.size ≤ k2 := h1
              have := HB2.out.size
              exact .inr (by omega)
      · go_wp2
        go_region_law ((refine step_append_row (by rfl) _ _ _ (by rfl) i0 _ 16 Try.underlying27 hi hz0 hz1 hz2 (by decide) (by decide) encS_len encS_one (.slice (some ⟨b, 0, Option.none⟩) k k) (L.list.take k) (by rfl) (row_drew HC.out) ⟨b, (k + 1) * 2, Option.none⟩ (L.list.length - (k + 1)) _ (L.list.drop (k + 1)) List.length_drop (by rfl) (by intro j u hu; rw [addo]; exact HS.out j u hu) (by rw [List.length_take]; unfold maxLen; omega) (by rw [List.length_take]; omega) ?_; intro v' w' hr ha; obtain ⟨A', n', cap', rfl⟩ := hr.some_slice; have X : Blk w' g 102 (cells L (.slice (some ⟨b, 0, Option.none⟩) L.list.length cap)) := (ha.block g hg HL2.out.apart).trans HL2.out.box; have x3 : w'.cell? ⟨g, 3, Option.none⟩ = some (.slice (some ⟨b, 0, Option.none⟩) L.list.length cap) := X.cell 3; have xf := X.frozen; have HA := Lib.hid ha; have HRR := Lib.hid hr; have HXX := Lib.hid X; clear X ha hr))
        all_goals
          go_wp2
          go_ret
          have hlw : ∀ k2, (Value.slice A' n' cap').ownBlock = some k2 → k2 ≠ g := fun k2 hk => by
            rcases HA.out.own k2 hk with h1 | h1
            · exact own_ne HL2.out k2 h1
            · have h2 : w2.heap.size ≤ k2 := h1
              omega
          refine ⟨by rw [E2.out]; rfl, .slice A' n' cap', ⟨(HXX.out.set_ 3 _).eq (by simp [cells]), ⟨by rw [E1.out, List.length_append, List.length_take, List.length_drop]; omega, ?_⟩, fun e => hlw g e rfl⟩, ?_, ?_⟩
          · show RowOf 26 2 encS _ _ (goes s L.list)
            rw [E1.out]
            exact HRR.out.same (fun k2 hk => Below.heap_setCell _ _ _ k2 (hlw k2 hk))
          · exact kept_own (v := .slice (some ⟨b, 0, Option.none⟩) k k) (kept_set (kept_app (below_drew HB2.out) HA.out) _ _) rfl
          · intro k2 hk
            rcases HA.out.own k2 hk with h1 | h1
            · exact .inl h1
            · have h2 : w2.heap.size ≤ k2 := h1
              have := HB2.out.size
              exact .inr (by omega)
end Go.Proofs.Ytaokiocpfpdmkaa.Led
