/- Chapter 21 (buffer): the document's buffer: Write, Free, Read. -/
import Derived.Test.YtaokiocpfpdmkaaBufKeeps
import Derived.Test.YtaokiocpfpdmkaaSpanRef
set_option linter.unusedSimpArgs false
set_option linter.unusedVariables false
attribute [local go_sem ↓] Go.wp_at_zero Go.wp_at_succ
namespace Go.Proofs.Ytaokiocpfpdmkaa.Buff
open Go.BigFrame Go.RowKit Go.OpenShut Go.Proofs.Ytaokiocpfpdmkaa.Aid Go.Proofs.Ytaokiocpfpdmkaa.Spans
open Led (Kept kept_refl kept_set kept_drewN kept_drew kept_below below_kept)
attribute [local go_sem high] run_from run_part
/-- The document's buffer by value. -/
def dval (una most : Int) (v : Value) : Value := .agg #[.int .i64 una, .int .i64 most, v]
def DVal (w : World) (una most : Int) (v : Value) (r : Int) (e : Ending) (w' : World) : Prop := e = .returned (.tuple #[dval una most v, .int .i64 r]) ∧ Below w.heap.size w w'
theorem rwrite_full (una most : Int) (A D : Option Addr) (n c m d : Nat) (w : World) (h0 : 0 ≤ most) (h1 : most ≤ 65536) (hn : n ≤ 65536) (h2 : most - n < m) : Calls Try.prog 71 #[dval una most (.slice A n c), .slice D m d] w (DVal w una most (.slice A n c) 4) := by
  have s1 : IntKind.i64.wrap (most - n) = most - n := IntWalk.i64_in _ (by omega)
  unfold dval
  go_enter Try.func71, Try.ntmps71
  go_wp2
  refine bodyPost_ret (v := .tuple #[dval una most (.slice A n c), .int .i64 4]) (by simp [results, Try.results71, go_sem, dval]; done) rfl ⟨rfl, ?_⟩
  exact ((Below.refl _ w).alloc (Nat.le_refl _) _).alloc (by simp) _
theorem rwrite_range (una most : Int) (A D : Option Addr) (n c m d : Nat) (w : World) (h0 : 0 ≤ most) (h1 : most ≤ 65536) (hn : n ≤ 65536) (h2 : (m : Int) ≤ most - n) (u0 : 0 ≤ una) (u1 : una ≤ 4611686018427387904) (h3 : 4611686018427387904 - una - n < m) : Calls Try.prog 71 #[dval una most (.slice A n c), .slice D m d] w (DVal w una most (.slice A n c) 3) := by
  have s1 : IntKind.i64.wrap (most - n) = most - n := IntWalk.i64_in _ (by omega)
  have s2 : IntKind.i64.wrap (4611686018427387904 - una) = 4611686018427387904 - una := IntWalk.i64_in _ (by omega)
  have s3 : IntKind.i64.wrap (4611686018427387904 - una - n) = 4611686018427387904 - una - n := IntWalk.i64_in _ (by omega)
  unfold dval
  go_enter Try.func71, Try.ntmps71
  go_wp2
  refine bodyPost_ret (v := .tuple #[dval una most (.slice A n c), .int .i64 3]) (by simp [results, Try.results71, go_sem, dval]; done) rfl ⟨rfl, ?_⟩
  exact ((Below.refl _ w).alloc (Nat.le_refl _) _).alloc (by simp) _
/-- What comes of the document's writing: a row of its own. -/
def DNew (w : World) (una most : Int) (B : List Int) (e : Ending) (w' : World) : Prop := ∃ v, e = .returned (.tuple #[dval una most v, .int .i64 0]) ∧ RowOf 5 1 encB w' v B ∧ Below w.heap.size w w' ∧ ∀ k, v.ownBlock = some k → w.heap.size ≤ k
theorem row_new2 (a b : Obj) (w : World) : RowOf 5 1 encB (((w.alloc a).alloc b).alloc (.cells #[] 5)) (.slice (some ⟨w.heap.size + 1 + 1, 0, Option.none⟩) 0 0) ([] : List Int) := by
  have := row_new ((w.alloc a).alloc b)
  simpa using this
theorem below_3 (w : World) (a b c : Obj) : Below w.heap.size w (((w.alloc a).alloc b).alloc c) := (((Below.refl _ w).alloc (Nat.le_refl _) _).alloc (by simp) _).alloc (by simp; omega) _
set_option maxRecDepth 100000 in
set_option maxHeartbeats 4000000 in
theorem rwrite_ok (una most : Int) (A D : Option Addr) (n c m d : Nat) (B p : List Int) (w : World) (h0 : 0 ≤ most) (h1 : most ≤ 65536) (hn : n ≤ 65536) (h2 : (m : Int) ≤ most - n) (u0 : 0 ≤ una) (u1 : una ≤ 4611686018427387904) (h3 : (m : Int) ≤ 4611686018427387904 - una - n)
    (hB : B.length = n) (hp : p.length = m) (hA : A = Option.none → c = 0) (hD : D = Option.none → d = 0) (hRB : Reps w A 1 encB B) (hRp : Reps w D 1 encB p) : Calls Try.prog 71 #[dval una most (.slice A n c), .slice D m d] w (DNew w una most (B ++ p)) := by
  obtain ⟨i0, hi, hz0, hz1, hz2⟩ := info_parts info5
  have s1 : IntKind.i64.wrap (most - n) = most - n := IntWalk.i64_in _ (by omega)
  have s2 : IntKind.i64.wrap (4611686018427387904 - una) = 4611686018427387904 - una := IntWalk.i64_in _ (by omega)
  have s3 : IntKind.i64.wrap (4611686018427387904 - una - n) = 4611686018427387904 - una - n := IntWalk.i64_in _ (by omega)
  have g1 : ¬ most - (n : Int) < (m : Int) := by omega
  have g2 : ¬ 4611686018427387904 - una - (n : Int) < (m : Int) := by omega
  have RB := Lib.hid hRB
  have RP := Lib.hid hRp
  have HB := Lib.hid hB
  have HP := Lib.hid hp
  clear hRB hRp hB hp
  unfold dval
  go_enter Try.func71, Try.ntmps71
  go_wp2_with (at_builtin; refine wpList_append_any (by rfl) _ _ 60 (by rfl) i0 _ 1 Try.underlying60 hi hz0 hz1 hz2 (by decide) (by decide) encB_len encB_one (.slice (some ⟨w.heap.size + 1 + 1, 0, Option.none⟩) 0 0) ([] : List Int) (by rfl) (row_new2 _ _ w) A n c B HB.out (by rfl) hA (RB.out.below (below_3 w _ _ _)) ?k2 ?k3 ?k4)
  case k2 => unfold maxLen; omega
  case k3 => omega
  case k4 =>
    intro v2 w2 q2 a2
    have hb2 : Below w.heap.size w w2 := below_app (below_3 w _ _ _) (by simp; omega) a2 (fun k hk => by
      have : w.heap.size + 1 + 1 = k := by simpa [Value.ownBlock] using hk
      omega)
    have ho2 : ∀ k, v2.ownBlock = some k → w.heap.size + 1 + 1 ≤ k := fun k hk => by
      rcases a2.own k hk with h | h
      · have : w.heap.size + 1 + 1 = k := by simpa [Value.ownBlock] using h
        omega
      · simp at h
        omega
    have hX0 : Blk w2 w.heap.size 81 #[.int .i64 una, .int .i64 most, .slice A n c] := (a2.block w.heap.size (by simp; omega) (by simp [Value.ownBlock]; omega)).trans (((Blk.new w 81 _).alloc _).alloc _)
    have hX1 : Blk w2 (w.heap.size + 1) 81 #[.int .i64 0, .int .i64 0, .slice Option.none 0 0] := (a2.block (w.heap.size + 1) (by simp) (by simp [Value.ownBlock])).trans (Blk.alloc (by have := Blk.new (w.alloc (.cells #[.int .i64 una, .int .i64 most, .slice A n c] 81)) 81 #[.int .i64 0, .int .i64 0, .slice Option.none 0 0]; simpa using this) _)
    have s2z : w.heap.size + 1 + 1 ≤ w2.heap.size := by have := a2.size; simp at this; omega
    have X0 := Lib.hid hX0
    have X1 := Lib.hid hX1
    have Q2 := Lib.hid q2
    have B2 := Lib.hid hb2
    have O2 := Lib.hid ho2
    have Z2 := Lib.hid s2z
    clear hX0 hX1 q2 hb2 ho2 a2 s2z
    go_wp2_with (at_builtin; refine wpList_append_any (by rfl) _ _ 60 (by rfl) i0 _ 1 Try.underlying60 hi hz0 hz1 hz2 (by decide) (by decide) encB_len encB_one v2 B (by rfl) Q2.out D m d p HP.out (by rfl) hD (RP.out.below B2.out) ?k2 ?k3 ?k4)
    case k2 => have := HB.out; unfold maxLen; omega
    case k3 => have := HB.out; omega
    case k4 =>
      intro v3 w3 q3 a3
      obtain ⟨A3, n3, c3, rfl⟩ := q3.some_slice
      have hb3 := below_app B2.out B2.out.size a3 (fun k hk => by have := O2.out k hk; omega)
      have hX0 : Blk w3 w.heap.size 81 _ := (a3.block w.heap.size (by have := Z2.out; omega) (fun e => by have := O2.out _ e; omega)).trans X0.out
      have hX1 : Blk w3 (w.heap.size + 1) 81 _ := (a3.block (w.heap.size + 1) (by have := Z2.out; omega) (fun e => by have := O2.out _ e; omega)).trans X1.out
      have x0 := hX0.cell 0
      have x1 := hX0.cell 1
      have x2 := hX0.cell 2
      have y0 := hX1.cell 0
      have y1 := hX1.cell 1
      have y2 := hX1.cell 2
      have fx := hX0.frozen
      have fy := hX1.frozen
      simp at x0 x1 x2 y0 y1 y2
      have Q3 := Lib.hid q3
      have B3 := Lib.hid hb3
      have O3 := Lib.hid (show ∀ k, (Value.slice A3 n3 c3).ownBlock = some k → w.heap.size + 1 + 1 ≤ k from fun k hk => by
        rcases a3.own k hk with h | h
        · exact O2.out k h
        · exact Nat.le_trans Z2.out h)
      have hne : ¬ w.heap.size = w.heap.size + 1 := by omega
      have HS3 := Lib.hid a3.size
      clear q3 hb3 a3 X0 X1 hX0 hX1
      go_wp2_with fail
      have hz3 : w.heap.size + 1 + 1 ≤ w3.heap.size := Nat.le_trans Z2.out HS3.out
      refine bodyPost_ret (v := .tuple #[dval una most (.slice A3 n3 c3), .int .i64 0]) (by simp [results, Try.results71, go_sem, dval, y0, y1, y2]; done) rfl ⟨_, rfl, ?_, ?_, fun k hk => by have := O3.out k hk; omega⟩
      · have hfar : ∀ k, (Value.slice A3 n3 c3).ownBlock = some k → k ≠ w.heap.size ∧ k ≠ w.heap.size + 1 := fun k hk => by have := O3.out k hk; omega
        exact Q3.out.same fun k hk => (Below.heap_setCell _ _ _ k (hfar k hk).2).trans ((Below.heap_setCell _ _ _ k (hfar k hk).2).trans ((Below.heap_setCell _ _ _ k (hfar k hk).2).trans (Below.heap_setCell _ _ _ k (hfar k hk).1)))
      · exact ((((B3.out.setCell (Nat.le_refl _) _).setCell (by simp) _).setCell (by simp) _).setCell (by simp) _)
theorem rfree_old (una most t : Int) (A : Option Addr) (n c : Nat) (w : World) (h : t < una) : Calls Try.prog 72 #[dval una most (.slice A n c), .int .i64 t] w (DVal w una most (.slice A n c) 11) := by
  unfold dval
  go_enter Try.func72, Try.ntmps72
  go_wp2
  refine bodyPost_ret (v := .tuple #[dval una most (.slice A n c), .int .i64 11]) (by simp [results, Try.results72, go_sem, dval]; done) rfl ⟨rfl, ?_⟩
  exact ((Below.refl _ w).alloc (Nat.le_refl _) _).alloc (by simp) _
theorem rfree_ahead (una most t : Int) (A : Option Addr) (n c : Nat) (w : World) (hn : n ≤ 65536) (u0 : 0 ≤ una) (u1 : una ≤ 4611686018427387904) (h1 : una ≤ t) (h : una + n < t) : Calls Try.prog 72 #[dval una most (.slice A n c), .int .i64 t] w (DVal w una most (.slice A n c) 12) := by
  have s1 : IntKind.i64.wrap (una + n) = una + n := IntWalk.i64_in _ (by omega)
  unfold dval
  go_enter Try.func72, Try.ntmps72
  go_wp2
  refine bodyPost_ret (v := .tuple #[dval una most (.slice A n c), .int .i64 12]) (by simp [results, Try.results72, go_sem, dval]; done) rfl ⟨rfl, ?_⟩
  exact ((Below.refl _ w).alloc (Nat.le_refl _) _).alloc (by simp) _
theorem rfree_ok (una most t : Int) (A : Option Addr) (n c k : Nat) (w : World) (hn : n ≤ 65536) (u0 : 0 ≤ una) (u1 : una ≤ 4611686018427387904) (h1 : una ≤ t) (h : t ≤ una + n) (hk : t - una = k) : Calls Try.prog 72 #[dval una most (.slice A n c), .int .i64 t] w (DVal w t most (.slice (Aim A c k) (n - k) (c - k)) 0) := by
  have s1 : IntKind.i64.wrap (una + n) = una + n := IntWalk.i64_in _ (by omega)
  have s2 : IntKind.i64.wrap (t - una) = (k : Int) := by rw [hk]; exact IntWalk.i64_in _ (by omega)
  have k0 : (0 : Int) ≤ (k : Int) := by omega
  have k1 : (k : Int) ≤ (n : Int) := by omega
  clear hk
  unfold dval
  go_enter Try.func72, Try.ntmps72
  go_wp2
  refine bodyPost_ret (v := .tuple #[dval t most (.slice (Aim A c k) (n - k) (c - k)), .int .i64 0]) (by simp [results, Try.results72, go_sem, dval]; done) rfl ⟨rfl, ?_⟩
  exact ((Below.refl _ w).alloc (Nat.le_refl _) _).alloc (by simp) _
theorem rread_bad (una most : Int) (A : Option Addr) (n c : Nat) (s : Span) (w : World) (hn : n ≤ 65536) (u0 : 0 ≤ una) (u1 : una ≤ 4611686018427387904) (hs : ¬ May s ∨ s.lo < una ∨ una + n < s.hi) :
    Calls Try.prog 73 #[dval una most (.slice A n c), .agg #[.int .i64 s.lo, .int .i64 s.hi]] w (Gives w (.tuple #[.slice Option.none 0 0, .int .i64 3])) := by
  have s1 : IntKind.i64.wrap (una + n) = una + n := IntWalk.i64_in _ (by omega)
  have M := Lib.hid (fun W => may_ref s W)
  have cases : (decide (May s) = false) ∨ (decide (May s) = true ∧ decide (s.lo < una) = true) ∨ (decide (May s) = true ∧ decide (s.lo < una) = false ∧ decide (una + n < s.hi) = true) := by
    by_cases h1 : May s
    · by_cases h2 : s.lo < una
      · exact .inr (.inl ⟨decide_eq_true h1, decide_eq_true h2⟩)
      · exact .inr (.inr ⟨decide_eq_true h1, decide_eq_false h2, decide_eq_true (hs.resolve_left (fun h => h h1) |>.resolve_left h2)⟩)
    · exact .inl (decide_eq_false h1)
  clear hs
  unfold dval
  rcases cases with h1 | ⟨h1, h2⟩ | ⟨h1, h2, h3⟩
  all_goals
    simp only [h1] at M
    clear h1
    go_enter Try.func73, Try.ntmps73
    go_wp2_with (go_at_call 79; refine (M.out _).mono ?_; rintro e w1 ⟨rfl, hb⟩; obtain ⟨hc, hf⟩ := bcell hb)
    go_ret2
    exact ⟨rfl, below2 hb⟩
theorem rread_ok (una most : Int) (A : Option Addr) (n c : Nat) (lo hi : Int) (i j : Nat) (w : World) (hn : n ≤ 65536) (hc0 : n ≤ c) (u0 : 0 ≤ una) (u1 : una + n ≤ 4611686018427387904) (h1 : una ≤ lo) (h2 : lo ≤ hi) (h3 : hi ≤ una + n) (hi' : lo - una = i) (hj' : hi - una = j) :
    Calls Try.prog 73 #[dval una most (.slice A n c), .agg #[.int .i64 lo, .int .i64 hi]] w (Gives w (.tuple #[.slice (Aim A c i) (j - i) (c - i), .int .i64 0])) := by
  have s1 : IntKind.i64.wrap (una + n) = una + n := IntWalk.i64_in _ (by omega)
  have s2 : IntKind.i64.wrap (lo - una) = (i : Int) := by rw [hi']; exact IntWalk.i64_in _ (by omega)
  have s3 : IntKind.i64.wrap (hi - una) = (j : Int) := by rw [hj']; exact IntWalk.i64_in _ (by omega)
  have hmay : May ⟨lo, hi⟩ := ⟨by simp only; omega, h2, by simp only; omega⟩
  have M := Lib.hid (fun W => may_ref ⟨lo, hi⟩ W)
  simp only [decide_eq_true hmay] at M
  have k0 : (0 : Int) ≤ (i : Int) := by omega
  have k1 : (i : Int) ≤ (j : Int) := by omega
  have k2 : (j : Int) ≤ (c : Int) := by omega
  have z1 : decide (lo < una) = false := decide_eq_false (by omega)
  have z2 : decide (una + n < hi) = false := decide_eq_false (by omega)
  clear hi' hj' hmay h3 h1 h2
  unfold dval
  go_enter Try.func73, Try.ntmps73
  go_wp2_with (go_at_call 79; refine (M.out _).mono ?_; rintro e w1 ⟨rfl, hb⟩; obtain ⟨hc, hf⟩ := bcell hb)
  go_ret2
  exact ⟨rfl, below2 hb⟩
end Go.Proofs.Ytaokiocpfpdmkaa.Buff
