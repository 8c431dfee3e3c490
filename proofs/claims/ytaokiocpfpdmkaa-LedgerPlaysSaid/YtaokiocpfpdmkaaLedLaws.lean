/- Chapter 19 (ledger): what must come of fixed calls; a ledger that is none. -/
import Derived.Test.YtaokiocpfpdmkaaLedDup
attribute [local go_sem ↓] Go.wp_at_zero Go.wp_at_succ
namespace Go.Proofs.Ytaokiocpfpdmkaa.Led
open Go.BigFrame Go.RowKit Go.OpenShut Go.Proofs.Ytaokiocpfpdmkaa.Aid Go.Proofs.Ytaokiocpfpdmkaa.Spans
/-- Block k is none of a ledger's own. -/
structure Prot (W : World) (g : Nat) (v : Value) (k : Nat) : Prop where
  lt : k < W.heap.size
  ne : k ≠ g
  own : v.ownBlock ≠ some k
theorem Prot.next {W W' : World} {g k : Nat} {v v' : Value} (h : Prot W g v k) (hk : Kept W W' g v) (ho : ∀ k, v'.ownBlock = some k → v.ownBlock = some k ∨ W.heap.size ≤ k) : Prot W' g v' k ∧ W'.heap[k]? = W.heap[k]? :=
  ⟨⟨Nat.lt_of_lt_of_le h.lt hk.size, h.ne, fun e => by
    rcases ho k e with h1 | h1
    · exact h.own h1
    · have := h.lt
      omega⟩, hk.block k h.lt h.ne h.own⟩
/-- A ledger of the call's own, made at or behind the base. -/
structure St (w W : World) (g : Nat) (v : Value) (L : Led) : Prop where
  led : IsLed W g v L
  gb : w.heap.size ≤ g
  vb : ∀ k, v.ownBlock = some k → w.heap.size ≤ k
  bel : Below w.heap.size w W
theorem St.does {w W W' : World} {g : Nat} {v r : Value} {L L' : Led} {e : Ending} (h : St w W g v L) (d : Does W g v r L' e W') : e = .returned r ∧ ∃ v', St w W' g v' L' ∧ Kept W W' g v ∧ (∀ k, v'.ownBlock = some k → v.ownBlock = some k ∨ W.heap.size ≤ k) := by
  obtain ⟨he, v', h1, hk, ho⟩ := d
  have hs := h.bel.size
  refine ⟨he, v', ⟨h1, h.gb, fun k e => ?_, ⟨hk.os.trans h.bel.os, hk.tape.trans h.bel.tape, hk.output.trans h.bel.output, Nat.le_trans hs hk.size, fun k hlt => ?_⟩⟩, hk, ho⟩
  · rcases ho k e with h2 | h2
    · exact h.vb k h2
    · omega
  · refine (hk.block k (by omega) (by have := h.gb; omega) (fun e => ?_)).trans (h.bel.block k hlt)
    have := h.vb k e
    omega
theorem St.below {w W W' : World} {g : Nat} {v : Value} {L : Led} (h : St w W g v L) (hb : Below W.heap.size W W') : St w W' g v L := ⟨h.led.below hb, h.gb, h.vb, below_then h.bel h.bel.size hb⟩
theorem at2_same {W W' : World} {g : Nat} {s : Span} (h : At2 W g s) (hb : W'.heap[g]? = W.heap[g]?) : At2 W' g s := by
  have e : ∀ o, W'.cell? ⟨g, o, Option.none⟩ = W.cell? ⟨g, o, Option.none⟩ := fun o => by simp only [World.cell?, hb]
  exact ⟨(e 0).trans h.1, (e 1).trans h.2⟩
set_option maxRecDepth 100000 in
set_option maxHeartbeats 4000000 in
theorem known_calls (w : World) : Calls Try.prog 24 #[] w (Gives w (.bool true)) := by
  go_enter Try.func24, Try.ntmps24
  go_wp2_with fail
  refine (new_calls _).mono ?_
  rintro e w1 ⟨rfl, hL1, hb1, hg, hlt⟩
  have S1 : St w w1 w.heap.size (.slice none 0 0) ⟨false, 0, 0, [], false⟩ := ⟨hL1, Nat.le_refl _, by simp [Value.ownBlock], hb1⟩
  have P1 : Prot (w1.alloc (.cells #[.int .i64 0, .int .i64 10] 26)) w.heap.size (.slice none 0 0) w1.heap.size := ⟨by simp, by omega, by simp [Value.ownBlock]⟩
  have T1 : At2 (w1.alloc (.cells #[.int .i64 0, .int .i64 10] 26)) w1.heap.size ⟨0, 10⟩ := at2_new (s := ⟨0, 10⟩) rfl
  have S2 := S1.below ((Below.refl _ w1).alloc (Nat.le_refl _) (.cells #[.int .i64 0, .int .i64 10] 26))
  have HS := Lib.hid S2
  have HP := Lib.hid P1
  have HT := Lib.hid T1
  clear S1 S2 P1 T1 hL1 hb1 hg
  go_wp2_with fail
  refine (cut_yes _ _ _ _ _ _ HS.out.led rfl).mono ?_
  intro e w2 d
  obtain ⟨rfl, v2, S3, K3, o3⟩ := HS.out.does d
  obtain ⟨P3, q3⟩ := HP.out.next K3 o3
  have T3 := Lib.hid (at2_same HT.out q3)
  have c0 : w2.cell? ⟨w1.heap.size, 0, Option.none⟩ = some (.int .i64 0) := T3.out.1
  have c1 : w2.cell? ⟨w1.heap.size, 1, Option.none⟩ = some (.int .i64 10) := T3.out.2
  have HS3 := Lib.hid S3
  have HP3 := Lib.hid P3
  clear S3 P3 K3 o3 q3 d HS HP HT
  go_wp2_with fail
  refine (again_ok _ v2 _ ⟨0, 10⟩ _ HS3.out.led (by decide) (by simp)).mono ?_
  intro e w3 d
  obtain ⟨rfl, v3, S4, K4, o4⟩ := HS3.out.does d
  obtain ⟨P4, q4⟩ := HP3.out.next K4 o4
  have T4 := Lib.hid (at2_same T3.out q4)
  have HS4 := Lib.hid S4
  have HP4 := Lib.hid P4
  clear S4 P4 K4 o4 q4 d HS3 HP3 T3 c0 c1
  have d0 : w3.cell? ⟨w1.heap.size, 0, Option.none⟩ = some (.int .i64 0) := T4.out.1
  have d1 : w3.cell? ⟨w1.heap.size, 1, Option.none⟩ = some (.int .i64 10) := T4.out.2
  go_wp2_with fail
  refine (undo_stay _ v3 _ _ HS4.out.led (.inl (by simp))).mono ?_
  rintro e w4 ⟨rfl, rfl⟩
  unfold Three
  go_wp2_with fail
  refine (dup_calls _ v3 _ ⟨0, 10⟩ _ HS4.out.led (by decide)).mono ?_
  intro e w5 d
  have ha : any ⟨0, 10⟩ ([] ++ [⟨0, 10⟩]) = true := by decide
  have hgo : goes ⟨0, 10⟩ ([] ++ [⟨0, 10⟩]) = [] := by decide
  simp only [ha, hgo] at d
  obtain ⟨rfl, v5, S5, K5, o5⟩ := HS4.out.does d
  have HS5 := Lib.hid S5
  clear S5 K5 o5 d ha hgo HS4 HP4 T4 d0 d1
  go_wp2_with fail
  refine (undo_go _ v5 _ _ HS5.out.led rfl rfl (Q := fun e w' => e = .returned (Three 100 50 true) ∧ ∃ v', St w w' w.heap.size v' ⟨false, 100, 50, [], false⟩) ((force_yes _ v5 _ _ HS5.out.led rfl).mono (fun e w' d => ?_))).mono ?_
  · obtain ⟨rfl, v6, S6, _, _⟩ := HS5.out.does d
    exact ⟨100, 50, true, rfl, rfl, v6, S6⟩
  · rintro e w6 ⟨rfl, v6, S6⟩
    have HS6 := Lib.hid S6
    clear S6
    unfold Three
    go_wp2_with fail
    refine (open_calls _ v6 _ _ HS6.out.led).mono ?_
    rintro e w7 ⟨rfl, rfl⟩
    go_wp2
    go_ret
    exact ⟨rfl, HS6.out.bel⟩
theorem clone_none (w : World) : Calls Try.prog 31 #[.pointer none] w (Same w (.pointer none)) := by
  go_enter Try.func31, Try.ntmps31
  go_wp2
  go_ret
  exact ⟨rfl, rfl⟩
def Yes (w : World) (e : Ending) (w' : World) : Prop := e = .returned (.bool true) ∧ Below w.heap.size w w'
set_option maxRecDepth 100000 in
set_option maxHeartbeats 4000000 in
theorem none_walk (s : Span) (n : Int) (w : World) : Calls Try.prog 10 #[.agg #[.int .i64 s.lo, .int .i64 s.hi], .int .i64 n] w (Yes w) := by
  have HT := Lib.hid (at2_new (W := w) (s := s) rfl)
  go_enter Try.func10, Try.ntmps10
  go_wp2_with fail
  refine (known_calls _).mono ?_
  rintro e w1 ⟨rfl, hb⟩
  have T1 := Lib.hid (at2_call HT.out hb)
  have B1 := Lib.hid (below1 hb)
  have c0 : w1.cell? ⟨w.heap.size, 0, Option.none⟩ = some (.int .i64 s.lo) := T1.out.1
  have c1 : w1.cell? ⟨w.heap.size, 1, Option.none⟩ = some (.int .i64 s.hi) := T1.out.2
  clear hb HT
  go_wp2_with fail
  refine (undo_none _).mono ?_
  rintro e w2 ⟨rfl, rfl⟩
  unfold Three
  go_wp2_with fail
  refine (force_none _).mono ?_
  rintro e w2 ⟨rfl, rfl⟩
  unfold Three
  go_wp2_with fail
  refine (cut_none _ _ _).mono ?_
  rintro e w2 ⟨rfl, rfl⟩
  go_wp2_with fail
  refine (again_none s _).mono ?_
  rintro e w2 ⟨rfl, hb⟩
  have T2 := Lib.hid (at2_call T1.out hb)
  have B2 := Lib.hid (below_then B1.out B1.out.size hb)
  clear hb c0 c1
  have c0 : w2.cell? ⟨w.heap.size, 0, Option.none⟩ = some (.int .i64 s.lo) := T2.out.1
  have c1 : w2.cell? ⟨w.heap.size, 1, Option.none⟩ = some (.int .i64 s.hi) := T2.out.2
  go_wp2_with fail
  refine (dup_none s _).mono ?_
  rintro e w3 ⟨rfl, hb⟩
  have B3 := Lib.hid (below_then B2.out B2.out.size hb)
  clear hb c0 c1
  go_wp2_with fail
  refine (open_none _).mono ?_
  rintro e w4 ⟨rfl, rfl⟩
  go_wp2_with fail
  refine (pending_none _).mono ?_
  rintro e w4 ⟨rfl, rfl⟩
  go_wp2_with fail
  refine (spilt_none _).mono ?_
  rintro e w4 ⟨rfl, rfl⟩
  go_wp2_with fail
  refine (clone_none _).mono ?_
  rintro e w4 ⟨rfl, rfl⟩
  go_wp2_with fail
  refine (known_calls _).mono ?_
  rintro e w5 ⟨rfl, hb⟩
  have B4 := Lib.hid (below_then B3.out B3.out.size hb)
  clear hb
  go_wp2
  go_ret
  exact ⟨rfl, B4.out⟩
end Go.Proofs.Ytaokiocpfpdmkaa.Led
