/- Chapter 25 (duct): does, an operation with both: what the document's own makes of a duct, what the duct makes of it. -/
import Derived.Test.YtiphkgkhfomcaaaDuctRefE
import Derived.Test.YtiphkgkhfomcaaaDuctPlain
set_option linter.unusedSimpArgs false
set_option linter.unusedVariables false
attribute [local go_sem ↓] Go.wp_at_zero Go.wp_at_succ
namespace Go.Proofs.Ytiphkgkhfomcaaa.Duct
open Go.BigFrame Go.RowKit Go.OpenShut Go.Proofs.Ytiphkgkhfomcaaa.Aid Go.Proofs.Ytiphkgkhfomcaaa.DMap Go.Proofs.Ytiphkgkhfomcaaa.Byt
/-- What the document's own makes of its duct. -/
def RefTo (w0 W : World) (v : Value) (L' : Dt) (P : Value → Prop) (r2 : Value) (e : Ending) (w' : World) : Prop :=
  ∃ v' cs' r1, P r1 ∧ e = .returned (.tuple #[refD L'.last v', r1, r2]) ∧ RowOf 124 5 encP w' v' cs' ∧ Agree w0 L' cs' ∧ Below W.heap.size W w' ∧ ∀ k, v'.ownBlock = some k → v.ownBlock = some k ∨ W.heap.size ≤ k
theorem refTo_same {w0 W : World} {v : Value} {L : Dt} {cs : List Cp} {r1 r2 : Value} {P : Value → Prop} (hr : RowOf 124 5 encP W v cs) (hA : Agree w0 L cs) (hP : P r1) (e : Ending) (w' : World) (h : Gives W (.tuple #[refD L.last v, r1, r2]) e w') : RefTo w0 W v L P r2 e w' :=
  ⟨v, cs, r1, hP, h.1, hr.below h.2, hA, h.2, fun k hk => .inl hk⟩
theorem rput_to {w0 w : World} {L : Dt} {cs : List Cp} {v : Value} (hr : RowOf 124 5 encP w v cs) (hA : Agree w0 L cs) (hl : L.fates.length < 1000000) {rv : Value} {xs : List Int} (hs : Byt.Src w0 rv xs) (now : Int) :
    ∀ W, Below w.heap.size w W → Calls Try.prog 55 #[refD L.last v, rv, .int .i64 now] W (RefTo w0 W v (putR L xs now).2.2 (fun r => r = .int .i64 (putR L xs now).1) (.int .i64 (putR L xs now).2.1)) := by
  intro W hW
  have hr := hr.below hW
  have hcl := hA.len
  unfold putR
  by_cases hb : bad L now
  · rw [if_pos hb]
    exact (rput_bad L.last now v cs rv W hr hb).mono (refTo_same hr hA rfl)
  · rw [if_neg hb]
    unfold bad at hb
    obtain ⟨Ar, cr, rfl, _⟩ := hs.is
    by_cases h1 : 2096 < xs.length
    · rw [if_pos h1]
      exact (rput_long L.last now v cs Ar xs.length cr W hr (by omega) (by omega) h1).mono (refTo_same hr hA rfl)
    · rw [if_neg h1]
      by_cases h2 : 4096 ≤ L.n
      · rw [if_pos h2]
        exact (rput_full L.last now v cs Ar xs.length cr W hr (by omega) (by omega) (by omega) (by omega) (by rw [hA.lenP]; exact h2)).mono (refTo_same hr hA rfl)
      · rw [if_neg h2]
        refine (rput_ok L.last now v cs Ar xs.length cr W hr (by omega) (by omega) (by omega) (by omega) (by rw [hA.lenP]; omega)).mono fun e w' ⟨v', he, h3, h4, h5⟩ => ?_
        rw [hcl] at he h3
        exact ⟨v', _, _, rfl, he, h3, agree_put hA (c := ⟨⟨L.fates.length, now, 0, 0⟩, Ar, xs.length, cr⟩) hs (by simp) (by simp), h4, fun k hk => .inr (h5 k hk)⟩
theorem rdouble_to {w0 w : World} {L : Dt} {cs : List Cp} {v : Value} (hr : RowOf 124 5 encP w v cs) (hA : Agree w0 L cs) (hl : L.fates.length < 1000000) (id now : Int) :
    ∀ W, Below w.heap.size w W → Calls Try.prog 53 #[refD L.last v, .int .i64 id, .int .i64 now] W (RefTo w0 W v (doubleR L id now).2.2 (fun r => r = .int .i64 (doubleR L id now).1) (.int .i64 (doubleR L id now).2.1)) := by
  intro W hW
  have hr := hr.below hW
  have hcl := hA.len
  unfold doubleR
  by_cases hb : bad L now
  · rw [if_pos hb]
    exact (rdouble_bad L.last id now v cs W hr hb).mono (refTo_same hr hA rfl)
  · rw [if_neg hb]
    unfold bad at hb
    have hI := hA.is id
    rcases hx : L.raws id with _ | xs
    · rw [hx] at hI
      exact (rdouble_none L.last id now v cs W hr (by omega) (by omega) (by omega) hI).mono (refTo_same hr hA rfl)
    · rw [hx] at hI
      simp only
      by_cases h2 : 4096 ≤ L.n
      · rw [if_pos h2]
        exact (rdouble_full L.last id now v cs W hr (by omega) (by omega) (by omega) hI (by rw [hA.lenP]; exact h2)).mono (refTo_same hr hA rfl)
      · rw [if_neg h2]
        obtain ⟨k, c, rfl, hc, hz, hen, hof, hsrc, hg⟩ := hA.at_ hx
        refine (rdouble_ok L.last now k v cs c W hr (by omega) (by omega) (by omega) hI hc (by rw [hA.lenP]; omega)).mono fun e w' ⟨v', he, h3, h4, h5⟩ => ?_
        rw [hcl] at he
        refine ⟨v', _, _, rfl, he, h3, agree_put hA hsrc ?_ hof, h4, fun k hk => .inr (h5 k hk)⟩
        rw [Int.toNat_natCast, hg, if_neg (by omega)]
        obtain ⟨⟨a1, a2, a3, a4⟩, b1, b2, b3⟩ := c
        simp only at hz hen
        rw [hz, hen]
/-- What an end makes. -/
def endR (L : Dt) (id now kind : Int) : List Int × Int × Dt :=
  if bad L now then ([], 3, L) else match L.raws id with
    | Option.none => ([], 10, L)
    | some xs => (xs, 0, endD L id.toNat now kind)
theorem src_nil (w : World) : Byt.Src w nilS [] := ⟨_, 0, rfl, fun i x h => by simp at h, fun _ => ⟨rfl, rfl⟩⟩
theorem rend_to {w0 w : World} {L : Dt} {cs : List Cp} {v : Value} (hr : RowOf 124 5 encP w v cs) (hA : Agree w0 L cs) (hl : L.fates.length < 1000000) (id now kind : Int) (hk : kind ≠ 0) :
    ∀ W, Below w.heap.size w W → Calls Try.prog 54 #[refD L.last v, .int .i64 id, .int .i64 now, .int .i64 kind] W (RefTo w0 W v (endR L id now kind).2.2 (fun r => Byt.Src w0 r (endR L id now kind).1) (.int .i64 (endR L id now kind).2.1)) := by
  intro W hW
  have hr := hr.below hW
  have hcl := hA.len
  unfold endR
  by_cases hb : bad L now
  · rw [if_pos hb]
    exact (rend_bad L.last id now kind v cs W hr hb).mono (refTo_same hr hA (src_nil w0))
  · rw [if_neg hb]
    unfold bad at hb
    have hI := hA.is id
    rcases hx : L.raws id with _ | xs
    · rw [hx] at hI
      exact (rend_none L.last id now kind v cs W hr (by omega) (by omega) (by omega) hI).mono (refTo_same hr hA (src_nil w0))
    · rw [hx] at hI
      obtain ⟨k, c, rfl, hc, hz, hen, hof, hsrc, hg⟩ := hA.at_ hx
      refine (rend_ok L.last now kind k v cs c W hr (by omega) (by omega) (by omega) hI hc).mono fun e w' ⟨v', he, h3, h4, h5⟩ => ?_
      exact ⟨v', _, _, hsrc, he, h3, agree_end hA hc hx hk, h4, fun k hk => .inr (h5 k hk)⟩
/-- What comes of a call that may turn the duct. -/
def To (W : World) (g mb : Nat) (fv : Value) (L' : Dt) (w' : World) : Prop := ∃ fv' m', IsDuct w' g mb fv' m' L' ∧ Keeps W w' g mb fv ∧ (∀ k, fv'.ownBlock = some k → fv.ownBlock = some k ∨ W.heap.size ≤ k)
theorem to_same {W : World} {g mb : Nat} {fv : Value} {m : Int → Option Value} {L : Dt} (h : IsDuct W g mb fv m L) : To W g mb fv L W := ⟨fv, m, h, keeps_refl _ _ _ _, fun k hk => .inl hk⟩
theorem put_to {w0 w : World} {g mb : Nat} {fv : Value} {m : Int → Option Value} {L : Dt} (h : St w0 w g mb fv m L) (hl : L.fates.length < 1000000) {rv : Value} {xs : List Int} (hs : Byt.Src w0 rv xs) (hx : xs.length ≤ 9223372036854775807) (now : Int) :
    ∀ W, Below w.heap.size w W → Calls Try.prog 27 #[.pointer (some ⟨g, 0, Option.none⟩), rv, .int .i64 now] W (fun e w' => e = .returned (.tuple #[.int .i64 (putR L xs now).1, .int .i64 (putR L xs now).2.1]) ∧ To W g mb fv (putR L xs now).2.2 w') := by
  intro W hW
  have h := h.below hW
  have hf : xs ≠ [] → ∀ k, rv.ownBlock = some k → k < w0.heap.size := fun hne k hk => by
    obtain ⟨A, c, rfl, hR, _⟩ := hs.is
    obtain ⟨x, hx⟩ : ∃ x, xs[0]? = some x := by
      cases xs with
      | nil => exact absurd rfl hne
      | cons a r => exact ⟨a, rfl⟩
    obtain ⟨ad, rfl, hlt, _⟩ := hR 0 x hx
    obtain rfl : ad.block = k := by simpa [Value.ownBlock] using hk
    exact hlt
  have h1 := h.gb
  have h2 := h.mbb
  exact (put1_calls g mb fv m L rv xs now W h.d (hs.below h.bel) hl (fun hne k hk => ⟨by have := hf hne k hk; omega, fun e => by have := hf hne k hk; have := h.fb k e; omega⟩) (fun hne k hk _ => by have := hf hne k hk; omega) hx).mono fun e w' h => h
theorem double_to {w0 w : World} {g mb : Nat} {fv : Value} {m : Int → Option Value} {L : Dt} (h : St w0 w g mb fv m L) (hl : L.fates.length < 1000000) (id now : Int) (hi : Fits id) :
    ∀ W, Below w.heap.size w W → Calls Try.prog 34 #[.pointer (some ⟨g, 0, Option.none⟩), .int .i64 id, .int .i64 now] W (fun e w' => e = .returned (.tuple #[.int .i64 (doubleR L id now).1, .int .i64 (doubleR L id now).2.1]) ∧ To W g mb fv (doubleR L id now).2.2 w') :=
  fun W hW => (double_calls g mb fv m L id now W (h.below hW).d hi hl).mono fun e w' h => h
theorem take_to {w0 w : World} {g mb : Nat} {fv : Value} {m : Int → Option Value} {L : Dt} (h : St w0 w g mb fv m L) (id now : Int) (hi : Fits id) :
    ∀ W, Below w.heap.size w W → Calls Try.prog 30 #[.pointer (some ⟨g, 0, Option.none⟩), .int .i64 id, .int .i64 now] W (fun e w' => ∃ v, e = .returned (.tuple #[v, .int .i64 (endR L id now 1).2.1]) ∧ RowOf 5 1 encB w' v (endR L id now 1).1 ∧ To W g mb fv (endR L id now 1).2.2 w') := by
  intro W hW
  have h := (h.below hW).d
  unfold endR
  by_cases hb : bad L now
  · rw [if_pos hb]
    exact (take_bad g mb fv m L id now W h hb).mono fun e w' ⟨he, hw⟩ => ⟨_, he, .inl ⟨rfl, rfl⟩, hw ▸ to_same h⟩
  · rw [if_neg hb]
    rcases hx : L.raws id with _ | xs
    · exact (take_none g mb fv m L id now W h hb hi hx).mono fun e w' ⟨he, hw⟩ => ⟨_, he, .inl ⟨rfl, rfl⟩, hw ▸ to_same h⟩
    · have := h.ids id xs hx
      obtain ⟨k, rfl⟩ : ∃ k : Nat, id = k := ⟨id.toNat, by omega⟩
      exact (take_ok g mb fv m L k now xs W h hb hx).mono fun e w' ⟨v, m', he, h1, h2, h3, h4⟩ => ⟨v, he, h1, fv, m', h2, h3, fun k hk => .inl hk⟩
theorem drop_to {w0 w : World} {g mb : Nat} {fv : Value} {m : Int → Option Value} {L : Dt} (h : St w0 w g mb fv m L) (id now : Int) (hi : Fits id) :
    ∀ W, Below w.heap.size w W → Calls Try.prog 29 #[.pointer (some ⟨g, 0, Option.none⟩), .int .i64 id, .int .i64 now] W (fun e w' => e = .returned (.int .i64 (endR L id now 2).2.1) ∧ To W g mb fv (endR L id now 2).2.2 w') := by
  intro W hW
  have h := (h.below hW).d
  unfold endR
  by_cases hb : bad L now
  · rw [if_pos hb]
    exact (drop_bad g mb fv m L id now W h hb).mono fun e w' ⟨he, hw⟩ => ⟨he, hw ▸ to_same h⟩
  · rw [if_neg hb]
    rcases hx : L.raws id with _ | xs
    · exact (drop_none g mb fv m L id now W h hb hi hx).mono fun e w' ⟨he, hw⟩ => ⟨he, hw ▸ to_same h⟩
    · have := h.ids id xs hx
      obtain ⟨k, rfl⟩ : ∃ k : Nat, id = k := ⟨id.toNat, by omega⟩
      exact (drop_ok g mb fv m L k now xs W h hb hx).mono fun e w' h => h
/-- What an operation with both makes. -/
def DoneD (w0 w : World) (g mb : Nat) (fv v : Value) (L' : Dt) (e : Ending) (w' : World) : Prop :=
  ∃ v' cs' fv' m', e = .returned (.tuple #[refD L'.last v', .bool true]) ∧ St w0 w' g mb fv' m' L' ∧ RowOf 124 5 encP w' v' cs' ∧ Agree w0 L' cs' ∧ Keeps w w' g mb fv ∧ (∀ k, fv'.ownBlock = some k → fv.ownBlock = some k ∨ w.heap.size ≤ k) ∧ (∀ k, v'.ownBlock = some k → v.ownBlock = some k ∨ w.heap.size ≤ k)
/-- The document's row is of no block of the duct's own. -/
theorem row_far {w : World} {v : Value} {cs : List Cp} {g mb : Nat} {fv : Value} {m : Int → Option Value} {L : Dt} (h : IsDuct w g mb fv m L) (hr : RowOf 124 5 encP w v cs) (k : Nat) (hk : v.ownBlock = some k) : k ≠ g ∧ k ≠ mb ∧ fv.ownBlock ≠ some k := by
  obtain ⟨h0, _⟩ | ⟨b, cap, cur, h0, _, _, h3, _⟩ := hr
  · rw [h0] at hk; simp [Value.ownBlock] at hk
  · rw [h0] at hk
    obtain rfl : b = k := by simpa [Value.ownBlock] using hk
    refine ⟨fun e => ?_, fun e => ?_, fun e => ?_⟩
    · subst e
      have := h3.symm.trans h.box
      simp at this
    · subst e
      obtain ⟨D, ⟨es, cl, e1, _⟩, _⟩ := h.map
      have := h3.symm.trans e1
      simp at this
    · obtain ⟨h0, _⟩ | ⟨b', cap', cur', h0, _, _, h3', _⟩ := h.row
      · rw [h0] at e
        simp [Value.ownBlock] at e
      · rw [h0] at e
        obtain rfl : b' = b := by simpa [Value.ownBlock] using e
        have := h3.symm.trans h3'
        simp at this
/-- A new block is of no block of the duct's own. -/
theorem keeps_new {w W W' : World} {g mb : Nat} {fv : Value} {m : Int → Option Value} {L : Dt} (h : IsDuct w g mb fv m L) (hk : Keeps W W' g mb fv) (k : Nat) (h1 : w.heap.size ≤ k) (h2 : k < W.heap.size) : W'.heap[k]? = W.heap[k]? := by
  have a := h.box.lt
  have b := h.map.lt
  exact hk.block k h2 (by omega) (by omega) (fun e => by have := h.row.lt k e; omega)
theorem keeps_same {w W W' : World} {g mb : Nat} {fv : Value} (hb : Below w.heap.size w W) (h : Keeps W W' g mb fv) : Keeps w W' g mb fv := below_keeps hb h
/-- The end of does: the duct that goes out is written. -/
theorem done_end {w0 w W1 W2 W3 : World} {g mb H : Nat} {fv v v' : Value} {m : Int → Option Value} {L L' : Dt} {cs' : List Cp} (h : St w0 w g mb fv m L) (hH : H = w.heap.size) (b1 : Below w.heap.size w W1) (hr : RowOf 124 5 encP W1 v' cs') (hv : ∀ k, v.ownBlock = some k → k < w.heap.size ∧ k ≠ g ∧ k ≠ mb ∧ fv.ownBlock ≠ some k) (ho : ∀ k, v'.ownBlock = some k → v.ownBlock = some k ∨ H + 2 < k) (hA : Agree w0 L' cs')
    (b2 : Below W1.heap.size W1 W2) (ht : To W2 g mb fv L' W3) (hd : Blk W3 (H + 2) 76 #[.int .i64 0, nilS]) :
    DoneD w0 w g mb fv v L' (.returned (.tuple #[refD L'.last v', .bool true])) ((W3.setCell ⟨H + 2, 0, Option.none⟩ (.int .i64 L'.last)).setCell ⟨H + 2, 1, Option.none⟩ v') := by
  obtain ⟨fv', m', t1, t2, t3⟩ := ht
  have s1 := b1.size
  have s2 := b2.size
  have s3 := t2.size
  have b12 := below_then b1 s1 b2
  have hg := h.d.box.lt
  have hm := h.d.map.lt
  have keep : ∀ k, k ≠ H + 2 → ((W3.setCell ⟨H + 2, 0, Option.none⟩ (.int .i64 L'.last)).setCell ⟨H + 2, 1, Option.none⟩ v').heap[k]? = W3.heap[k]? := fun k hk => (Below.heap_setCell _ _ _ k hk).trans (Below.heap_setCell _ _ _ k hk)
  have hrow3 : RowOf 124 5 encP W3 v' cs' := (hr.below b2).same (fun k hk => by
    have hlt := (hr.below b2).lt k hk
    rcases ho k hk with e | e
    · have := hv k e
      exact t2.block k hlt this.2.1 this.2.2.1 this.2.2.2
    · exact keeps_new h.d t2 k (by omega) hlt)
  have hfv : ∀ k, fv'.ownBlock = some k → k ≠ H + 2 := fun k hk e => by
    subst e
    obtain ⟨h0, _⟩ | ⟨b, cap, cur, h0, _, _, h3, _⟩ := t1.row
    · rw [h0] at hk; simp [Value.ownBlock] at hk
    · rw [h0] at hk
      obtain rfl : b = H + 2 := by simpa [Value.ownBlock] using hk
      have := h3.symm.trans hd
      simp at this
  have hvv : ∀ k, v'.ownBlock = some k → k ≠ H + 2 := fun k hk e => by
    rcases ho k hk with e2 | e2
    · have := hv k e2
      omega
    · omega
  have K3 : Keeps w W3 g mb fv := below_keeps b12 t2
  have K4 : Keeps w ((W3.setCell ⟨H + 2, 0, Option.none⟩ (.int .i64 L'.last)).setCell ⟨H + 2, 1, Option.none⟩ v') g mb fv :=
    ⟨K3.os, K3.tape, K3.output, by simpa [World.setCell] using K3.size, fun k h1 h2 h3 h4 => (keep k (by omega)).trans (K3.block k h1 h2 h3 h4)⟩
  have hbytes : ∀ u xs, RowOf 5 1 encB W3 u xs → RowOf 5 1 encB ((W3.setCell ⟨H + 2, 0, Option.none⟩ (.int .i64 L'.last)).setCell ⟨H + 2, 1, Option.none⟩ v') u xs := fun u xs hu => hu.same (fun k hk => keep k (fun e => by
    subst e
    obtain ⟨h0, _⟩ | ⟨b, cap, cur, h0, _, _, h3, _⟩ := hu
    · rw [h0] at hk; simp [Value.ownBlock] at hk
    · rw [h0] at hk
      obtain rfl : b = H + 2 := by simpa [Value.ownBlock] using hk
      have := h3.symm.trans hd
      simp at this))
  have D4 : IsDuct ((W3.setCell ⟨H + 2, 0, Option.none⟩ (.int .i64 L'.last)).setCell ⟨H + 2, 1, Option.none⟩ v') g mb fv' m' L' :=
    ⟨(keep g (by omega)).trans t1.box, t1.row.same (fun k hk => keep k (hfv k hk)), (t1.map.set_ (show mb ≠ H + 2 by omega) _).set_ (show mb ≠ H + 2 by omega) _, fun i => (t1.raw i).imp id (fun ⟨u, xs, a, b, c, d, e⟩ => ⟨u, xs, a, b, hbytes u xs c, d, e⟩), t1.ids, t1.gm, t1.fg, t1.fm, t1.len, t1.cnt, t1.l0, t1.l1⟩
  have ofv : ∀ k, fv'.ownBlock = some k → fv.ownBlock = some k ∨ w.heap.size ≤ k := fun k hk => (t3 k hk).imp id (fun e => by omega)
  refine ⟨v', cs', fv', m', rfl, h.keeps D4 K4 ofv, hrow3.same (fun k hk => keep k (hvv k hk)), hA, K4, ofv, fun k hk => (ho k hk).imp id (fun e => by omega)⟩
end Go.Proofs.Ytiphkgkhfomcaaa.Duct
