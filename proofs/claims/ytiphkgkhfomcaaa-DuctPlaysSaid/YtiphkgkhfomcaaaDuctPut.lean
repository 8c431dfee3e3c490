/- Chapter 25 (duct): put. -/
import Derived.Test.YtiphkgkhfomcaaaDuct
import Derived.Deep.DeepCutAuto
import Derived.Outline
set_option linter.unusedSimpArgs false
set_option linter.unusedVariables false
attribute [local go_sem ↓] Go.wp_at_zero Go.wp_at_succ
namespace Go.Proofs.Ytiphkgkhfomcaaa.Duct
open Go.BigFrame Go.RowKit Go.OpenShut Go.Proofs.Ytiphkgkhfomcaaa.Aid Go.Proofs.Ytiphkgkhfomcaaa.DMap Go.Proofs.Ytiphkgkhfomcaaa.Byt
/-- What comes of a call that turns the duct. -/
def Turn (w : World) (g mb : Nat) (fv : Value) (L' : Dt) (r : Value) (e : Ending) (w' : World) : Prop :=
  e = .returned r ∧ ∃ fv' m', IsDuct w' g mb fv' m' L' ∧ Keeps w w' g mb fv ∧ (∀ k, fv'.ownBlock = some k → fv.ownBlock = some k ∨ w.heap.size ≤ k)
def putD (L : Dt) (xs : List Int) (of_ at_ now : Int) : Dt := ⟨now, L.fates ++ [⟨if of_ < 0 then L.fates.length else of_, at_, 0, 0⟩], fun i => if i = L.fates.length then some xs else L.raws i, L.n + 1⟩
theorem info65 : (Try.prog.info? 65).map (fun i => (i.zero, i.size, i.bytes)) = some (some (.agg #[.int .i64 0, .int .i64 0, .int .i64 0, .int .i64 0]), 4, 32) := by kernel_rfl
theorem src_fate {w : World} {b : Nat} {f : Fate} (h : Blk w b 65 #[.int .i64 f.of_, .int .i64 f.at_, .int .i64 f.en, .int .i64 f.kind]) : ∀ j u, ([f].flatMap encF)[j]? = some u → w.cell? ((⟨b, 0, Option.none⟩ : Addr).add j) = some u := by
  intro j u hu
  have hj : j < 4 := by have := (List.getElem?_eq_some_iff.1 hu).1; simpa [encF] using this
  rw [add0, h.cell j]
  have hj' : j = 0 ∨ j = 1 ∨ j = 2 ∨ j = 3 := by omega
  rcases hj' with rfl | rfl | rfl | rfl <;> simpa [encF] using hu
theorem src_same {w w' : World} {v : Value} {xs : List Int} (h : Byt.Src w v xs) (hs : w.heap.size ≤ w'.heap.size) (hb : xs ≠ [] → ∀ k, v.ownBlock = some k → k < w.heap.size → w'.heap[k]? = w.heap[k]?) : Byt.Src w' v xs := by
  obtain ⟨A, c, rfl, h2, h3⟩ := h.is
  refine ⟨A, c, rfl, fun i x hx => ?_, h3⟩
  obtain ⟨ad, rfl, hl, hc⟩ := h2 i x hx
  refine ⟨ad, rfl, Nat.lt_of_lt_of_le hl hs, fun j u hu => ?_⟩
  rw [← hc j u hu]
  have e : (ad.add (i * 1 + j)).block = ad.block := by unfold Addr.add; split <;> rfl
  have := hb (fun h => by rw [h] at hx; simp at hx) ad.block rfl hl
  unfold World.cell?
  rw [e, this]
/-- Behind the append of the fate: the copies' bytes are not told yet. -/
structure Mid (w W : World) (g mb : Nat) (fv v' : Value) (m : Int → Option Value) (L : Dt) (now : Int) (fs : List Fate) : Prop where
  box : Blk W g 112 #[.int .i64 now, v', .map (some mb)]
  row : RowOf 65 4 encF W v' fs
  map : MapOf W mb nilS m L.n
  raw : ∀ i, (m i = Option.none ∧ L.raws i = Option.none) ∨ ∃ v xs, m i = some v ∧ L.raws i = some xs ∧ RowOf 5 1 encB W v xs ∧ xs.length ≤ 2096 ∧ (∀ k, v.ownBlock = some k → k < w.heap.size ∧ k ≠ g ∧ k ≠ mb ∧ fv.ownBlock ≠ some k)
  kp : Keeps w W g mb fv
  own : ∀ k, v'.ownBlock = some k → fv.ownBlock = some k ∨ w.heap.size ≤ k
theorem Mid.below {w W W' : World} {g mb : Nat} {fv v' : Value} {m : Int → Option Value} {L : Dt} {now : Int} {fs : List Fate} (h : Mid w W g mb fv v' m L now fs) (hb : Below W.heap.size W W') : Mid w W' g mb fv v' m L now fs :=
  ⟨h.box.below hb h.box.lt, h.row.below hb, h.map.below hb, fun i => (h.raw i).imp id (fun ⟨v, xs, a, b, c, d, e⟩ => ⟨v, xs, a, b, c.below hb, d, e⟩), keeps_below h.kp hb, h.own⟩
theorem mid_of {w w2 : World} {g mb : Nat} {fv v' : Value} {m : Int → Option Value} {L : Dt} {now : Int} {fs : List Fate} {o : Obj} (H : IsDuct w g mb fv m L) (ha : App ((w.setCell ⟨g, 0, Option.none⟩ (.int .i64 now)).alloc o) w2 fv v') (hr : RowOf 65 4 encF w2 v' fs) : Mid w (w2.setCell ⟨g, 1, Option.none⟩ v') g mb fv v' m L now fs := by
  have hg := H.box.lt
  have hm := H.map.lt
  have s1 : (w.setCell ⟨g, 0, Option.none⟩ (.int .i64 now)).heap.size = w.heap.size := by simp [World.setCell]
  have hsz := ha.size
  rw [World.size_alloc, s1] at hsz
  have own' : ∀ k, v'.ownBlock = some k → fv.ownBlock = some k ∨ w.heap.size ≤ k := fun k hk => (ha.own k hk).imp id (fun h1 => by rw [World.size_alloc, s1] at h1; omega)
  have keep : ∀ k, k < w.heap.size → k ≠ g → fv.ownBlock ≠ some k → w2.heap[k]? = w.heap[k]? := fun k h1 h2 h3 =>
    (ha.block k (by rw [World.size_alloc, s1]; omega) h3).trans ((Below.heap_alloc _ o k (by rw [s1]; exact h1)).trans (Below.heap_setCell w ⟨g, 0, Option.none⟩ _ k h2))
  have keep3 : ∀ k, k < w.heap.size → k ≠ g → fv.ownBlock ≠ some k → (w2.setCell ⟨g, 1, Option.none⟩ v').heap[k]? = w.heap[k]? := fun k h1 h2 h3 =>
    (Below.heap_setCell w2 ⟨g, 1, Option.none⟩ _ k h2).trans (keep k h1 h2 h3)
  have hbx : Blk w2 g 112 #[.int .i64 now, fv, .map (some mb)] := by
    have X := (H.box.set_ 0 (.int .i64 now)).alloc o
    have := (ha.block g X.lt H.fg).trans X
    exact Blk.eq this (by simp)
  have hv : ∀ k, v'.ownBlock = some k → k ≠ g := fun k hk e => by
    rcases own' k hk with h1 | h1
    · exact H.fg (by rw [h1, e])
    · omega
  refine ⟨(hbx.set_ 1 v').eq (by simp), hr.same (fun k hk => Below.heap_setCell w2 _ _ k (hv k hk)), ?_, fun i => (H.raw i).imp id (fun ⟨v, xs, a, b, c, d, e⟩ => ⟨v, xs, a, b, c.same (fun k hk => ?_), d, fun k hk => ⟨c.lt k hk, e k hk⟩⟩), ⟨ha.os, ha.tape, ha.output, by simp [World.setCell]; omega, fun k h1 h2 h3 h4 => keep3 k h1 h2 h4⟩, own'⟩
  · have M1 : MapOf (w.setCell ⟨g, 0, Option.none⟩ (.int .i64 now)) mb nilS m L.n := H.map.set_ (fun e => H.gm e.symm) _
    have M2 := M1.below ((Below.refl _ _).alloc (Nat.le_refl _) o)
    obtain ⟨D, d1, d2, d3⟩ := M2
    have M3 : MapOf w2 mb nilS m L.n := ⟨D, by
      obtain ⟨es, cl, e1, e2⟩ := d1
      exact ⟨es, cl, (ha.block mb (by rw [World.size_alloc, s1]; omega) H.fm).trans e1, e2⟩, d2, d3⟩
    exact M3.set_ (fun e => H.gm e.symm) _
  · have h1 := e k hk
    exact keep3 k (c.lt k hk) h1.1 h1.2.2
/-- The end of put. -/
theorem put_end {w W W5 : World} {g mb : Nat} {fv v' v9 : Value} {m : Int → Option Value} {L : Dt} {xs : List Int} {of_ at_ now oo : Int} {n5 : Nat} (H : IsDuct w g mb fv m L) (h : Mid w W g mb fv v' m L now (L.fates ++ [⟨oo, at_, 0, 0⟩])) (h9 : RowOf 5 1 encB W v9 xs) (ho9 : ∀ k, v9.ownBlock = some k → w.heap.size ≤ k ∧ v'.ownBlock ≠ some k)
    (hx : xs.length ≤ 2096) (hl : L.fates.length < 1000000) (h1 : L.last ≤ now) (h2 : now ≤ 4611686018427387904) (ho : (if of_ < 0 then (L.fates.length : Int) else of_) = oo) (hm : MapOf W5 mb nilS (put m L.fates.length v9) n5) (hn : n5 = (if (m L.fates.length).isSome then L.n else L.n + 1)) (hg : W.grownBy W5 (some mb)) :
    Turn w g mb fv (putD L xs of_ at_ now) (.int .i64 L.fates.length) (.returned (.int .i64 L.fates.length)) W5 := by
  have hgl := H.box.lt
  have hml := H.map.lt
  have hfree : m L.fates.length = Option.none := by
    rcases H.raw L.fates.length with ⟨a, _⟩ | ⟨v, ys, a, b, _⟩
    · exact a
    · have := (H.ids _ _ b).2
      omega
  rw [hfree] at hn
  simp at hn
  subst hn
  have blk : ∀ k, k < W.heap.size → k ≠ mb → W5.heap[k]? = W.heap[k]? := fun k h1 h2 => hg.block k h1 (fun e => h2 (by cases e; rfl))
  have hvm : ∀ k, v'.ownBlock = some k → k ≠ mb := fun k hk e => by
    rcases h.own k hk with h1 | h1
    · exact H.fm (by rw [h1, e])
    · omega
  have hvg : ∀ k, v'.ownBlock = some k → k ≠ g := fun k hk e => by
    rcases h.own k hk with h1 | h1
    · exact H.fg (by rw [h1, e])
    · omega
  refine ⟨rfl, v', put m L.fates.length v9, ⟨(blk g h.box.lt H.gm).trans h.box, ?_, hm, fun i => ?_, fun i ys hi => ?_, H.gm, fun e => hvg g e rfl, fun e => hvm mb e rfl, by simp [putD]; omega, by simp [putD]; exact H.cnt, by have := H.l0; simp only [putD]; omega, h2⟩, ?_, h.own⟩
  · have := h.row.same (w' := W5) (fun k hk => blk k (h.row.lt k hk) (hvm k hk))
    simp only [putD, ho]
    exact this
  · by_cases e : i = L.fates.length
    · subst e
      refine .inr ⟨v9, xs, by simp [put], by simp [putD], h9.same (fun k hk => blk k (h9.lt k hk) (fun e => by have := (ho9 k hk).1; omega)), hx, fun k hk => ?_⟩
      have := (ho9 k hk).1
      exact ⟨by omega, by omega, (ho9 k hk).2⟩
    · have e2 : put m L.fates.length v9 i = m i := by simp [put, e]
      have e3 : (putD L xs of_ at_ now).raws i = L.raws i := by simp [putD, e]
      rw [e2, e3]
      refine (h.raw i).imp id (fun ⟨v, ys, a, b, c, d, f⟩ => ⟨v, ys, a, b, c.same (fun k hk => blk k (c.lt k hk) (f k hk).2.2.1), d, fun k hk => ⟨(f k hk).2.1, (f k hk).2.2.1, fun e4 => ?_⟩⟩)
      rcases h.own k e4 with h5 | h5
      · exact (f k hk).2.2.2 h5
      · have := (f k hk).1
        omega
  · by_cases e : i = L.fates.length
    · subst e
      simp [putD]
      omega
    · simp only [putD, e, if_false] at hi
      have := H.ids i ys hi
      simp [putD]
      omega
  · exact ⟨hg.os.trans h.kp.os, hg.tape.trans h.kp.tape, hg.output.trans h.kp.output, Nat.le_trans h.kp.size hg.size, fun k a b c d => (blk k (Nat.lt_of_lt_of_le a h.kp.size) c).trans (h.kp.block k a b c d)⟩
set_option maxRecDepth 100000 in
set_option maxHeartbeats 4000000 in
theorem put_calls (g mb : Nat) (fv : Value) (m : Int → Option Value) (L : Dt) (rv : Value) (xs : List Int) (of_ at_ now : Int) (w : World) (h : IsDuct w g mb fv m L) (hs : Byt.Src w rv xs) (hx : xs.length ≤ 2096) (hl : L.fates.length < 1000000) (h1 : L.last ≤ now) (h2 : now ≤ 4611686018427387904) (hfar : xs ≠ [] → ∀ k, rv.ownBlock = some k → k ≠ g ∧ fv.ownBlock ≠ some k) (hmb : xs ≠ [] → ∀ k, rv.ownBlock = some k → k < w.heap.size → k ≠ mb) :
    Calls Try.prog 51 #[.pointer (some ⟨g, 0, Option.none⟩), rv, .int .i64 of_, .int .i64 at_, .int .i64 now] w (Turn w g mb fv (putD L xs of_ at_ now) (.int .i64 L.fates.length)) := by
  obtain ⟨i0, hi, hz0, hz1, hz2⟩ := info_parts info65
  have H := Lib.hid h
  have HS := Lib.hid hs
  obtain ⟨A, c, rfl, _⟩ := h.row.slice
  obtain ⟨nf, hnf⟩ : ∃ nf, L.fates.length = nf := ⟨_, rfl⟩
  have c0 := h.box.cell 0
  have c1 := h.box.cell 1
  have c2 := h.box.cell 2
  have fz := h.box.frozen
  simp at c0 c1 c2
  obtain ⟨v2, n2, cc2, rfl⟩ : ∃ A n c, rv = .slice A n c := by obtain ⟨A, c, h1, _⟩ := hs.is; exact ⟨_, _, _, h1⟩
  have HL := Lib.hid (And.intro hl (And.intro h1 h2))
  have HF := Lib.hid hfar
  have hm3 : xs ≠ [] → ∀ k, (Value.slice v2 n2 cc2).ownBlock = some k → k < w.heap.size → k ≠ mb := hmb
  rw [hnf] at c1 hl
  clear h hs h1 h2 hfar
  obtain ⟨oo, hoo⟩ : ∃ oo : Int, (if of_ < 0 then (L.fates.length : Int) else of_) = oo := ⟨_, rfl⟩
  have HO := Lib.hid hoo
  rw [hnf] at hoo
  have HNF := Lib.hid hnf
  rw [hnf]
  clear hnf
  have hcase : (of_ < 0 ∧ oo = nf) ∨ (¬ of_ < 0 ∧ oo = of_) := by
    by_cases hof : of_ < 0
    · rw [if_pos hof] at hoo; exact .inl ⟨hof, hoo.symm⟩
    · rw [if_neg hof] at hoo; exact .inr ⟨hof, hoo.symm⟩
  clear hoo
  rcases hcase with ⟨hof, rfl⟩ | ⟨hof, rfl⟩
  · go_enter Try.func51, Try.ntmps51
    go_upto_region 5 with fail
    have R1 := Lib.hid (H.out.row.same (w' := w.setCell ⟨g, 0, Option.none⟩ (.int .i64 now)) (fun k hk => Below.heap_setCell w _ _ k (fun e => H.out.fg (by rw [hk, e]))))
    have s1 : (w.setCell ⟨g, 0, Option.none⟩ (.int .i64 now)).heap.size = w.heap.size := by simp [World.setCell]
    have B1 := Lib.hid ((H.out.box.set_ 0 (.int .i64 now)).eq (cs' := #[.int .i64 now, .slice A nf c, .map (some mb)]) (by simp [HNF.out]))
    have hgl := H.out.box.lt
    have HM := Lib.hid (fun (w2 : World) (v' : Value) (o : Obj) (ha : App ((w.setCell ⟨g, 0, Option.none⟩ (.int .i64 now)).alloc o) w2 (.slice A L.fates.length c) v') (hr : RowOf 65 4 encF w2 v' (L.fates ++ [⟨nf, at_, 0, 0⟩])) => mid_of (now := now) H.out ha hr)
    rw [HNF.out] at HM R1
    generalize w.setCell ⟨g, 0, Option.none⟩ (.int .i64 now) = w1 at *
    have S1 := Lib.hid s1
    have hgl1 : g < w1.heap.size := by omega
    clear s1
    have b1 := B1.out.cell 1
    have b2 := B1.out.cell 2
    simp at b1 b2
    clear c0 c1 c2 fz
    go_wp2_with (at_builtin; refine wpList_append_row (by rfl) _ _ 110 (by rfl) i0 _ 32 Try.underlying110 hi hz0 hz1 hz2 (by decide) (by decide) encF_len encF_one (.slice A nf c) L.fates (by rfl) (R1.out.same fun k hk => Below.heap_alloc w1 _ k (R1.out.lt k hk)) ⟨w1.heap.size, 0, Option.none⟩ 1 1 [⟨nf, at_, 0, 0⟩] rfl (by rfl) (src_fate (heap_alloc_new _ _)) ?k2 ?k3 ?k4)
    case k2 => rw [HNF.out]; unfold maxLen; omega
    case k3 => rw [HNF.out]; omega
    case k4 =>
      intro v' w2 hr ha
      obtain ⟨A', n', c', rfl⟩ := hr.some_slice
      have M3 := Lib.hid (HM.out w2 _ _ ha hr)
      have X : Blk w2 g 112 #[.int .i64 now, .slice A nf c, .map (some mb)] := (ha.block g (by simp; omega) (by rw [← HNF.out]; exact H.out.fg)).trans (B1.out.alloc _)
      have x1 := X.cell 1
      have xf := X.frozen
      simp at x1
      clear hr ha X b1 b2 HM R1 B1
      go_upto_region 6 with fail
      generalize w2.setCell ⟨g, 1, Option.none⟩ (.slice A' n' c') = w3 at *
      have g2 := M3.out.box.cell 2
      simp at g2
      clear x1 xf
      have C3 := Lib.hid (fun (W : World) (hb : Below w3.heap.size w3 W) => bclone_calls (.slice v2 n2 cc2) xs W ((src_same HS.out M3.out.kp.size (fun hne k hk hlt => by
        have hf := HF.out hne k hk
        exact M3.out.kp.block k hlt hf.1 (hm3 hne k hk hlt) (by rw [← HNF.out]; exact hf.2))).below hb) (by omega))
      go_region_held3 (fun w' => w'.cell? ⟨g, 2, Option.none⟩ = some (.map (some mb))) (go_keep) ((go_at_call 63; refine (C3.out _ (Below.refl _ _).drew).mono ?_; rintro e w4 ⟨v9, rfl, r9, b9, o9⟩; have M4 := Lib.hid (M3.out.below ((Below.refl _ w3).drew.trans b9)); have g4 := M4.out.box.cell 2; (simp at g4); obtain ⟨w5, hrun, hm5, hg5, hs5⟩ := M4.out.map.store Try.underlying109 (by have := H.out.cnt; have := HNF.out; unfold maxLen; omega) (i := nf) ⟨by omega, by omega⟩ v9; have g5 : w5.cell? ⟨g, 2, Option.none⟩ = some (.map (some mb)) := (by have X5 : Blk w5 g 112 _ := (hg5.block g M4.out.box.lt (fun e => H.out.gm (by simpa using e))).trans M4.out.box; have := X5.cell 2; simpa using this); have HM5 := Lib.hid hm5; have HG5 := Lib.hid hg5; have R9 := Lib.hid r9; have O9 := Lib.hid o9; clear hm5 hg5 r9 o9 b9))
      all_goals
        go_wp2
        go_ret
        have M5 : Mid w w4 g mb (.slice A L.fates.length c) (.slice A' n' c') m L now (L.fates ++ [⟨nf, at_, 0, 0⟩]) := by
          have t := M4.out
          rw [← HNF.out] at t
          (try rw [← HNF.out])
          exact t
        have hm5 := HM5.out
        rw [← HNF.out] at hm5
        have O4 := HO.out
        rw [← HNF.out]
        refine put_end H.out M5 R9.out (fun k hk => ?_) hx (by rw [HNF.out]; exact hl) HL.out.2.1 HL.out.2.2 (by first | exact O4 | (rw [← HNF.out] at O4; exact O4)) hm5 rfl HG5.out
        have h9 := O9.out k hk
        have hs3 := M3.out.kp.size
        have h9' : w3.heap.size ≤ k := h9
        exact ⟨by omega, fun e => by have := M3.out.row.lt k e; omega⟩
  · go_enter Try.func51, Try.ntmps51
    go_upto_region 5 with fail
    have R1 := Lib.hid (H.out.row.same (w' := w.setCell ⟨g, 0, Option.none⟩ (.int .i64 now)) (fun k hk => Below.heap_setCell w _ _ k (fun e => H.out.fg (by rw [hk, e]))))
    have s1 : (w.setCell ⟨g, 0, Option.none⟩ (.int .i64 now)).heap.size = w.heap.size := by simp [World.setCell]
    have B1 := Lib.hid ((H.out.box.set_ 0 (.int .i64 now)).eq (cs' := #[.int .i64 now, .slice A nf c, .map (some mb)]) (by simp [HNF.out]))
    have hgl := H.out.box.lt
    have HM := Lib.hid (fun (w2 : World) (v' : Value) (o : Obj) (ha : App ((w.setCell ⟨g, 0, Option.none⟩ (.int .i64 now)).alloc o) w2 (.slice A L.fates.length c) v') (hr : RowOf 65 4 encF w2 v' (L.fates ++ [⟨oo, at_, 0, 0⟩])) => mid_of (now := now) H.out ha hr)
    rw [HNF.out] at HM R1
    generalize w.setCell ⟨g, 0, Option.none⟩ (.int .i64 now) = w1 at *
    have S1 := Lib.hid s1
    have hgl1 : g < w1.heap.size := by omega
    clear s1
    have b1 := B1.out.cell 1
    have b2 := B1.out.cell 2
    simp at b1 b2
    clear c0 c1 c2 fz
    go_wp2_with (at_builtin; refine wpList_append_row (by rfl) _ _ 110 (by rfl) i0 _ 32 Try.underlying110 hi hz0 hz1 hz2 (by decide) (by decide) encF_len encF_one (.slice A nf c) L.fates (by rfl) (R1.out.same fun k hk => Below.heap_alloc w1 _ k (R1.out.lt k hk)) ⟨w1.heap.size, 0, Option.none⟩ 1 1 [⟨oo, at_, 0, 0⟩] rfl (by rfl) (src_fate (heap_alloc_new _ _)) ?k2 ?k3 ?k4)
    case k2 => rw [HNF.out]; unfold maxLen; omega
    case k3 => rw [HNF.out]; omega
    case k4 =>
      intro v' w2 hr ha
      obtain ⟨A', n', c', rfl⟩ := hr.some_slice
      have M3 := Lib.hid (HM.out w2 _ _ ha hr)
      have X : Blk w2 g 112 #[.int .i64 now, .slice A nf c, .map (some mb)] := (ha.block g (by simp; omega) (by rw [← HNF.out]; exact H.out.fg)).trans (B1.out.alloc _)
      have x1 := X.cell 1
      have xf := X.frozen
      simp at x1
      clear hr ha X b1 b2 HM R1 B1
      go_upto_region 6 with fail
      generalize w2.setCell ⟨g, 1, Option.none⟩ (.slice A' n' c') = w3 at *
      have g2 := M3.out.box.cell 2
      simp at g2
      clear x1 xf
      have C3 := Lib.hid (fun (W : World) (hb : Below w3.heap.size w3 W) => bclone_calls (.slice v2 n2 cc2) xs W ((src_same HS.out M3.out.kp.size (fun hne k hk hlt => by
        have hf := HF.out hne k hk
        exact M3.out.kp.block k hlt hf.1 (hm3 hne k hk hlt) (by rw [← HNF.out]; exact hf.2))).below hb) (by omega))
      go_region_held3 (fun w' => w'.cell? ⟨g, 2, Option.none⟩ = some (.map (some mb))) (go_keep) ((go_at_call 63; refine (C3.out _ (Below.refl _ _).drew).mono ?_; rintro e w4 ⟨v9, rfl, r9, b9, o9⟩; have M4 := Lib.hid (M3.out.below ((Below.refl _ w3).drew.trans b9)); have g4 := M4.out.box.cell 2; (simp at g4); obtain ⟨w5, hrun, hm5, hg5, hs5⟩ := M4.out.map.store Try.underlying109 (by have := H.out.cnt; have := HNF.out; unfold maxLen; omega) (i := nf) ⟨by omega, by omega⟩ v9; have g5 : w5.cell? ⟨g, 2, Option.none⟩ = some (.map (some mb)) := (by have X5 : Blk w5 g 112 _ := (hg5.block g M4.out.box.lt (fun e => H.out.gm (by simpa using e))).trans M4.out.box; have := X5.cell 2; simpa using this); have HM5 := Lib.hid hm5; have HG5 := Lib.hid hg5; have R9 := Lib.hid r9; have O9 := Lib.hid o9; clear hm5 hg5 r9 o9 b9))
      all_goals
        go_wp2
        go_ret
        have M5 : Mid w w4 g mb (.slice A L.fates.length c) (.slice A' n' c') m L now (L.fates ++ [⟨oo, at_, 0, 0⟩]) := by
          have t := M4.out
          rw [← HNF.out] at t
          (try rw [← HNF.out])
          exact t
        have hm5 := HM5.out
        rw [← HNF.out] at hm5
        have O4 := HO.out
        rw [← HNF.out]
        refine put_end H.out M5 R9.out (fun k hk => ?_) hx (by rw [HNF.out]; exact hl) HL.out.2.1 HL.out.2.2 (by first | exact O4 | (rw [← HNF.out] at O4; exact O4)) hm5 rfl HG5.out
        have h9 := O9.out k hk
        have hs3 := M3.out.kp.size
        have h9' : w3.heap.size ≤ k := h9
        exact ⟨by omega, fun e => by have := M3.out.row.lt k e; omega⟩
end Go.Proofs.Ytiphkgkhfomcaaa.Duct
