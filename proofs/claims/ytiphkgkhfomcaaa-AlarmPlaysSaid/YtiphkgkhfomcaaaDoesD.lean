/- Chapter 13 (alarm): does: Advance. -/
import Derived.Test.YtiphkgkhfomcaaaDoesC
import Derived.Test.YtiphkgkhfomcaaaRefE
set_option linter.unusedSimpArgs false
set_option linter.unusedVariables false
attribute [local go_sem ↓] Go.wp_at_zero Go.wp_at_succ
namespace Go.Proofs.Ytiphkgkhfomcaaa.Alarm
open Go.BigFrame Go.RowKit Go.OpenShut Go.Proofs.Ytiphkgkhfomcaaa.Aid Go.Proofs.Ytiphkgkhfomcaaa.DMap Go.Proofs.Ytiphkgkhfomcaaa.Heap
theorem done_end2 {w W1 W2 W3 : World} {B : Nat → Prop} {C H : Nat} {c c' : Ck} {v v' : Value} {A2 : List Int} {bv : Bool} {P : Ck → List Int → Bool → Prop} {r : Value} {e : Ending} (h : Clk w B C c) (hH : H = w.heap.size) (hX : H + 1 + 1 < W1.heap.size) (hv : ∀ k, v.ownBlock = some k → ¬ B k)
    (b1 : Below w.heap.size w W1) (hr : RowOf 3 1 encI W1 v' A2) (ho : ∀ k, v'.ownBlock = some k → v.ownBlock = some k ∨ H < k) (b2 : Below W1.heap.size W1 W2) (ht : Turns W2 B C c' r e W3) (hd : Blk W3 (H + 1 + 1) 44 #[.int .i64 0, nilS]) (h6 : ∀ k, v'.ownBlock = some k → k ≠ H + 1 + 1) (hP : P c' A2 bv) :
    Done w B C v P (.returned (.tuple #[refV c'.now v', .bool bv])) ((W3.setCell ⟨H + 1 + 1, 0, Option.none⟩ (.int .i64 c'.now)).setCell ⟨H + 1 + 1, 1, Option.none⟩ v') := by
  obtain ⟨_, B', h1, h2, h3⟩ := ht
  have s1 := b1.size
  have s2 := b2.size
  have b12 := below_then b1 s1 b2
  have hBl : ∀ k, B k → k < w.heap.size := fun k hk => h.lt k hk
  have keep : ∀ k, k ≠ H + 1 + 1 → ((W3.setCell ⟨H + 1 + 1, 0, Option.none⟩ (.int .i64 c'.now)).setCell ⟨H + 1 + 1, 1, Option.none⟩ v').heap[k]? = W3.heap[k]? := fun k hk => (Below.heap_setCell _ _ _ k hk).trans (Below.heap_setCell _ _ _ k hk)
  have hnB : ¬ B' (H + 1 + 1) := fun hb => by
    rcases h2 _ hb with e | e
    · have := hBl _ e; omega
    · omega
  have hrow3 : RowOf 3 1 encI W3 v' A2 := (hr.below b2).same (fun k hk => h3.block k ((hr.below b2).lt k hk) (fun hb => by
    rcases ho k hk with e | e
    · exact hv k e hb
    · have := hBl k hb; omega))
  refine ⟨v', B', c', A2, bv, rfl, h1.same (fun k hk => keep k (fun e => hnB (e ▸ hk))), hrow3.same (fun k hk => keep k (h6 k hk)), fun k hk => ⟨fun hb => ?_, ?_⟩, fun k hk => (h2 k hk).imp id (fun e => by have := b12.size; omega), ?_, hP⟩
  · have hlt := (hr.below b2).lt k hk
    rcases h2 k hb with e | e
    · rcases ho k hk with e2 | e2
      · exact hv k e2 e
      · have := hBl k e; omega
    · omega
  · rcases ho k hk with e | e
    · exact .inl e
    · exact .inr (by omega)
  · have k3 := (Kp.of_below (B := B) b12).trans h3 (fun _ h => .inl h)
    exact ⟨k3.os, k3.tape, k3.output, by simpa [World.setCell] using k3.size, fun k h4 h5 => (keep k (by omega)).trans (k3.block k h4 h5)⟩
theorem Turns.below {w w' w2 : World} {B : Nat → Prop} {C : Nat} {c' : Ck} {v : Value} {e : Ending} (h : Turns w B C c' v e w') (hb : Below w'.heap.size w' w2) : Turns w B C c' v e w2 := by
  obtain ⟨h1, B', h2, h3, h4⟩ := h
  exact ⟨h1, B', h2.below hb, h3, h4.below hb⟩
/-- What an advance makes: what is told, what the clock shows, which ring, and what is set then. -/
def advR (now : Int) (A : List Int) (n : Int) : Int × Int × (List Int × List Int) :=
  if n < 0 ∨ 4611686018427387904 - now < n then (3, now, ([], A)) else (0, now + n, adv (now + n) A.length A)
theorem adv_ref {w : World} {now : Int} {A : List Int} {v : Value} (hr : RowOf 3 1 encI w v A) (hl : A.length ≤ 64) (n0 : 0 ≤ now) (n1 : now ≤ 4611686018427387904) (n : Int) :
    ∀ W, Below w.heap.size w W → Calls Try.prog 44 #[refV now v, .int .i64 n] W (fun e w' => ∃ v' vl, e = .returned (.tuple #[refV (advR now A n).2.1 v', vl, .int .i64 (advR now A n).1]) ∧ RowOf 3 1 encI w' v' (advR now A n).2.2.2 ∧ RowOf 3 1 encI w' vl (advR now A n).2.2.1 ∧ Below W.heap.size W w' ∧ (∀ k, v'.ownBlock = some k → v.ownBlock = some k ∨ W.heap.size ≤ k) ∧ ∀ k, vl.ownBlock = some k → W.heap.size ≤ k) := by
  intro W hW
  unfold advR
  by_cases hn : n < 0 ∨ 4611686018427387904 - now < n
  · rw [if_pos hn]
    exact (radv_bad now v A n W (hr.below hW) n0 n1 hn).mono fun e w' ⟨he, hb⟩ => ⟨v, nilS, he, (hr.below hW).below hb, .inl ⟨rfl, rfl⟩, hb, fun k hk => .inl hk, fun k hk => by simp [Value.ownBlock] at hk⟩
  · rw [if_neg hn]
    exact (radv_calls now v A n W (hr.below hW) hl n0 n1 (by omega) (by omega)).mono fun e w' ⟨v', vl, he, h1, h2, h3, h4, h5⟩ => ⟨v', vl, he, h1, h2, h3, h4, h5⟩
theorem adv_clk {w : World} {B : Nat → Prop} {C : Nat} {c : Ck} (h : Clk w B C c) (n : Int) :
    ∀ W, Below w.heap.size w W → Calls Try.prog 15 #[.pointer (some ⟨C, 0, Option.none⟩), .int .i64 n] W (fun e w' => ∃ vm B', e = .returned (.tuple #[vm, .int .i64 (advR c.now c.A n).1]) ∧ RowOf 3 1 encI w' vm (advR c.now c.A n).2.2.1 ∧ Clk w' B' C ⟨(advR c.now c.A n).2.1, (advR c.now c.A n).2.2.2⟩ ∧ (∀ k, B' k → B k ∨ W.heap.size ≤ k) ∧ Kp B W w') := by
  intro W hW
  unfold advR
  by_cases hn : n < 0 ∨ 4611686018427387904 - c.now < n
  · rw [if_pos hn]
    exact (advance_bad B C c n W (h.below hW) hn).mono fun e w' ⟨he, hw⟩ => ⟨nilS, B, he, .inl ⟨rfl, rfl⟩, hw ▸ h.below hW, fun k hk => .inl hk, hw ▸ Kp.refl _ _⟩
  · rw [if_neg hn]
    exact (advance_calls B C c n W (h.below hW) (by omega) (by omega)).mono fun e w' ⟨vm, B', he, h1, h2, h3, h4, h5⟩ => ⟨vm, B', he, h2, h1, h4, h5⟩
theorem advR_len (now : Int) (A : List Int) (n : Int) : (advR now A n).2.2.1.length ≤ A.length := by
  unfold advR
  split
  · simp
  · exact adv_count _ _ _
/-- Ahead of the last statement: both have told. -/
structure Told2 (w W : World) (B B' : Nat → Prop) (C H X : Nat) (v v' : Value) (c' : Ck) (names : List Int) (kd nm n : Int) (now : Int) : Prop where
  door : Door w W H now v kd nm n
  box : Blk W X 44 #[.int .i64 c'.now, v']
theorem after2 {W W' : World} {H X : Nat} {t : Int} {v' : Value} (hX : Blk W X 44 #[.int .i64 t, v']) (h6 : Blk W (H + 1 + 1) 44 #[.int .i64 0, nilS]) (hb : Below W.heap.size W W') : W'.cell? ⟨X, 0, Option.none⟩ = some (.int .i64 t) ∧ W'.cell? ⟨X, 1, Option.none⟩ = some v' ∧ W'.cell? ⟨H + 1 + 1, 0, Option.none⟩ = some (.int .i64 0) ∧ W'.cell? ⟨H + 1 + 1, 1, Option.none⟩ = some nilS ∧ (∀ i, W'.frozen? ⟨H + 1 + 1, i, Option.none⟩ = false) ∧ Blk W' (H + 1 + 1) 44 #[.int .i64 0, nilS] := by
  have x := hX.below hb hX.lt
  have y := h6.below hb h6.lt
  have e0 := x.cell 0
  have e1 := x.cell 1
  have e2 := y.cell 0
  have e3 := y.cell 1
  simp at e0 e1 e2 e3
  exact ⟨e0, e1, e2, e3, y.frozen, y⟩
set_option maxRecDepth 100000 in
set_option maxHeartbeats 4000000 in
theorem does_adv (B : Nat → Prop) (C : Nat) (c : Ck) (v : Value) (kd nm n : Int) (w : World) (h : Clk w B C c) (hr : RowOf 3 1 encI w v c.A) (hv : ∀ k, v.ownBlock = some k → ¬ B k) (hk : kd % 3 = 2) (hk0 : 0 ≤ kd) :
    Calls Try.prog 19 #[.pointer (some ⟨C, 0, Option.none⟩), refV c.now v, .agg #[.int .u8 kd, .int .i64 nm, .int .i64 n]] w (Done w B C v (fun c' A' bv => A' = c'.A ∧ bv = true)) := by
  have HC := Lib.hid (And.intro h hv)
  have hBl := Lib.hid (fun k (hk : B k) => h.lt k hk)
  obtain ⟨Av, nv, cv, rfl⟩ := hr.some_slice
  have D0 := Lib.hid (door_new w c.now (.slice Av nv cv) kd nm n)
  have HV := Lib.hid (fun k (hk : (Value.slice Av nv cv).ownBlock = some k) => show k ≠ w.heap.size + 1 + 1 from fun e => by have := hr.lt k hk; omega)
  have HS0 := Lib.hid (show ((((w.alloc (.cells #[.int .i64 c.now, .slice Av nv cv] 44)).alloc (.cells #[.int .u8 kd, .int .i64 nm, .int .i64 n] 30)).alloc (.cells #[.int .i64 0, nilS] 44)).heap.size = w.heap.size + 1 + 1 + 1) by simp)
  have hkk : kd.tmod 3 = 2 := by rw [Int.tmod_eq_emod_of_nonneg hk0]; exact hk
  have RS := Lib.hid (adv_ref (now := c.now) hr h.ok.len h.ok.n0 h.ok.n1 n)
  have KS := Lib.hid (adv_clk h n)
  have NL := Lib.hid (show (advR c.now c.A n).2.2.1.length ≤ 64 from Nat.le_trans (advR_len _ _ _) h.ok.len)
  clear hv hk h hr
  generalize advR c.now c.A n = rr at *
  obtain ⟨er, t, names, A'⟩ := rr
  simp only at RS KS NL
  go_enter Try.func19, Try.ntmps19
  go_wp2_with fail
  refine (RS.out _ D0.out.2).mono ?_
  rintro e W1 ⟨v', vl, rfl, r1, l1, b1, o1, ol⟩
  obtain ⟨A2, n2, c2, rfl⟩ := r1.some_slice
  obtain ⟨Al, cl, rfl, _⟩ := l1.slice
  have bW1 := below_then D0.out.2 D0.out.2.size b1
  have d1 := D0.out.1.below b1
  have hs0 := HS0.out
  have hs1 := b1.size
  have R1 := Lib.hid (And.intro r1 (And.intro bW1 (And.intro (show w.heap.size + 1 + 1 < W1.heap.size by omega) (fun k hk => (o1 k hk).imp id (fun e => show w.heap.size + 1 + 1 < k by omega)))))
  have L1 := Lib.hid (And.intro l1 (fun k hk => show w.heap.size ≤ k from by have := ol k hk; omega))
  clear r1 bW1 o1 hs1 b1 l1 ol
  go_upto_region 12 with fail
  have b2 : Below W1.heap.size W1 (W1.alloc (.cells #[.int .i64 t, .slice A2 n2 c2] 44)) := (Below.refl _ W1).alloc (Nat.le_refl _) _
  have hX := Blk.new W1 44 #[.int .i64 t, .slice A2 n2 c2]
  have d2 := d1.below b2
  revert b2 hX d2
  generalize W1.alloc (.cells #[.int .i64 t, .slice A2 n2 c2] 44) = W2
  intro b2 hX d2
  generalize hXX : W1.heap.size = X at *
  have HXX := Lib.hid hXX
  clear hXX
  have p2 := d2.b5.cell 2
  simp at p2
  have D2 := Lib.hid (And.intro d2 (And.intro hX b2))
  have hb12 : Below W1.heap.size W1 W2 := by rw [HXX.out]; exact b2
  have KW := Lib.hid (KS.out W2 (below_then R1.out.2.1 R1.out.2.1.size hb12))
  have L2 := Lib.hid (L1.out.1.below hb12)
  have hX3 := R1.out.2.2.1
  clear d1 d2 hX RS KS b2 hb12
  go_wp2_with fail
  refine KW.out.mono ?_
  rintro e W3 ⟨vm, B', rfl, m3, k1, k2, k3⟩
  obtain ⟨Am, cm, rfl, _⟩ := m3.slice
  have d3 := D2.out.1.kp k3 hBl.out
  have hX3' : Blk W3 X 44 #[.int .i64 t, .slice A2 n2 c2] := (k3.block X D2.out.2.1.lt (fun e => by have := hBl.out _ e; omega)).trans D2.out.2.1
  have l3 : RowOf 3 1 encI W3 (.slice Al names.length cl) names := L2.out.same (fun k hk => k3.block k (L2.out.lt k hk) (fun e => by have := hBl.out _ e; have := L1.out.2 k hk; omega))
  have T3 := Lib.hid (show Turns W2 B C ⟨t, A'⟩ (.int .i64 er) (.returned (.int .i64 er)) W3 from ⟨rfl, B', k1, k2, k3⟩)
  obtain ⟨x0, x1, y0, y1, yf, y6⟩ := after2 hX3' d3.b6 (Below.refl _ _)
  have SM : Hid (∀ W, Below W3.heap.size W3 W → Calls Try.prog 22 #[.slice Al names.length cl, .slice Am names.length cm] W (Gives W (.bool true))) := Lib.hid (fun W hW => by
    obtain ⟨_, _, e1, _, hl⟩ := (l3.below hW).reps encI_len
    injection e1 with e1 e2 e3
    subst e1
    obtain ⟨_, _, f1, _, hm⟩ := (m3.below hW).reps encI_len
    injection f1 with f1 f2 f3
    subst f1
    exact same_n _ _ cl cm names.length names.length names W hl hm rfl rfl (by have := NL.out; omega))
  have AFT := Lib.hid (fun W' (hb : Below W3.heap.size W3 W') => after2 hX3' d3.b6 hb)
  have ne1 : ¬ (w.heap.size + 1 + 1 = X) := by omega
  have ne2 : ¬ (X = w.heap.size + 1 + 1) := by omega
  clear m3 k1 k2 k3 d3 hX3' l3 y6 KW p2
  go_upto_region 13 with fail
  go_region_held3 (fun W => W.cell? ⟨X, 0, Option.none⟩ = some (.int .i64 t) ∧ W.cell? ⟨X, 1, Option.none⟩ = some (.slice A2 n2 c2)) (go_keep) ((go_at_call 22; refine (SM.out _ (by first | exact below_drew (Below.refl _ _) | exact below_drew (below_drew (Below.refl _ _)))).mono ?_; rintro e W4 ⟨rfl, b4⟩; have b34 := below_then (below_drew (Below.refl W3.heap.size W3)) (Nat.le_refl _) b4; obtain ⟨a0, a1, a3, a4, a5, a6⟩ := AFT.out W4 b34; have HT := Lib.hid (And.intro b34 a6); clear b4 b34 a6))
  all_goals
    go_wp2
    obtain ⟨b34, a6⟩ := HT.out
    have E := done_end2 (c' := ⟨t, A'⟩) (v' := .slice A2 n2 c2) (A2 := A') (bv := true) (P := fun c' A' bv => A' = c'.A ∧ bv = true) (r := .int .i64 er) (W1 := W1) (W2 := W2) HC.out.1 rfl (by rw [HXX.out]; exact R1.out.2.2.1) HC.out.2 R1.out.2.1 R1.out.1 (fun k hk => (R1.out.2.2.2 k hk).imp id (fun e => by omega)) (by rw [HXX.out]; exact D2.out.2.2) (T3.out.below b34) a6 (r1_far R1.out.2.2.2 HV.out) ⟨rfl, rfl⟩
    have o1 := ((a6.set_ 0 (.int .i64 t)).set_ 1 (.slice A2 n2 c2)).eq (cs' := #[.int .i64 t, .slice A2 n2 c2]) (by simp)
    have t0 := o1.cell 0
    have t1 := o1.cell 1
    simp at t0 t1
    exact bodyPost_ret (v := .tuple #[refV t (.slice A2 n2 c2), .bool true]) (by simp [results, Try.results19, go_sem, t0, t1]; done) rfl E
theorem does_all (B : Nat → Prop) (C : Nat) (c : Ck) (v : Value) (kd nm n : Int) (w : World) (h : Clk w B C c) (hr : RowOf 3 1 encI w v c.A) (hv : ∀ k, v.ownBlock = some k → ¬ B k) (hk0 : 0 ≤ kd) (hf : Fits nm) :
    Calls Try.prog 19 #[.pointer (some ⟨C, 0, Option.none⟩), refV c.now v, .agg #[.int .u8 kd, .int .i64 nm, .int .i64 n]] w (Done w B C v (fun c' A' bv => A' = c'.A ∧ bv = true)) := by
  have mono : ∀ e w', Done w B C v (Alike c c.A) e w' → Done w B C v (fun c' A' bv => A' = c'.A ∧ bv = true) e w' := fun e w' ⟨v', B', c', A', bv, h1, h2, h3, h4, h5, h6, h7⟩ => ⟨v', B', c', A', bv, h1, h2, h3, h4, h5, h6, h7.2 rfl⟩
  rcases (by omega : kd % 3 = 0 ∨ kd % 3 = 1 ∨ kd % 3 = 2) with h4 | h4 | h4
  · exact (does_set B C c v kd nm n w h c.A hr h.ok.len hv h4 hk0).mono mono
  · exact (does_stop B C c v kd nm n w h c.A hr h.ok.len hv h4 hk0 hf).mono mono
  · exact does_adv B C c v kd nm n w h hr hv h4 hk0
end Go.Proofs.Ytiphkgkhfomcaaa.Alarm
