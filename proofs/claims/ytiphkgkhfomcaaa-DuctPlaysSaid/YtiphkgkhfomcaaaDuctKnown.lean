/- Chapter 25 (duct): a duct of the call's own; what must come of fixed calls (known). -/
import Derived.Test.YtiphkgkhfomcaaaDuctTake
set_option linter.unusedSimpArgs false
set_option linter.unusedVariables false
attribute [local go_sem ↓] Go.wp_at_zero Go.wp_at_succ
namespace Go.Proofs.Ytiphkgkhfomcaaa.Duct
open Go.BigFrame Go.RowKit Go.OpenShut Go.Proofs.Ytiphkgkhfomcaaa.Aid Go.Proofs.Ytiphkgkhfomcaaa.DMap Go.Proofs.Ytiphkgkhfomcaaa.Byt
/-- A duct of the call's own, made at or behind the base w. -/
structure St (w W : World) (g mb : Nat) (fv : Value) (m : Int → Option Value) (L : Dt) : Prop where
  d : IsDuct W g mb fv m L
  gb : w.heap.size ≤ g
  mbb : w.heap.size ≤ mb
  fb : ∀ k, fv.ownBlock = some k → w.heap.size ≤ k
  bel : Below w.heap.size w W
theorem St.below {w W W' : World} {g mb : Nat} {fv : Value} {m : Int → Option Value} {L : Dt} (h : St w W g mb fv m L) (hb : Below W.heap.size W W') : St w W' g mb fv m L :=
  ⟨h.d.below hb, h.gb, h.mbb, h.fb, below_then h.bel h.bel.size hb⟩
theorem St.keeps {w W W' : World} {g mb : Nat} {fv fv' : Value} {m m' : Int → Option Value} {L L' : Dt} (h : St w W g mb fv m L) (hd : IsDuct W' g mb fv' m' L') (hk : Keeps W W' g mb fv) (ho : ∀ k, fv'.ownBlock = some k → fv.ownBlock = some k ∨ W.heap.size ≤ k) : St w W' g mb fv' m' L' := by
  have hs := h.bel.size
  refine ⟨hd, h.gb, h.mbb, fun k hk2 => ?_, ⟨hk.os.trans h.bel.os, hk.tape.trans h.bel.tape, hk.output.trans h.bel.output, Nat.le_trans hs hk.size, fun k hlt => ?_⟩⟩
  · rcases ho k hk2 with h1 | h1
    · exact h.fb k h1
    · omega
  · have h1 := h.gb
    have h2 := h.mbb
    exact (hk.block k (by omega) (by omega) (by omega) (fun e => by have := h.fb k e; omega)).trans (h.bel.block k hlt)
/-- A duct somewhere, told L. -/
def Has (w W : World) (g mb : Nat) (L : Dt) : Prop := ∃ fv m, St w W g mb fv m L
theorem Has.below {w W W' : World} {g mb : Nat} {L : Dt} (h : Has w W g mb L) (hb : Below W.heap.size W W') : Has w W' g mb L := by
  obtain ⟨fv, m, h⟩ := h
  exact ⟨fv, m, h.below hb⟩
theorem new_has (w W : World) (hb : Below w.heap.size w W) : Calls Try.prog 26 #[] W fun e W' => ∃ g mb, e = .returned (.pointer (some ⟨g, 0, Option.none⟩)) ∧ Has w W' g mb empty := (new_calls W).mono fun e W' ⟨g, mb, m, he, hd, b, h1, h2⟩ => by
  have := hb.size
  exact ⟨g, mb, he, nilS, m, hd, by omega, by omega, fun k hk => by simp [nilS, Value.ownBlock] at hk, below_then hb hb.size b⟩
/-- Bytes are kept. -/
def KeepB (W w' : World) : Prop := ∀ v xs, RowOf 5 1 encB W v xs → RowOf 5 1 encB w' v xs
theorem bytes_far {W : World} {g mb : Nat} {fv : Value} {m : Int → Option Value} {L : Dt} {k : Nat} (h : IsDuct W g mb fv m L) (hk : ∃ cs, Blk W k 5 cs) : k ≠ g ∧ k ≠ mb ∧ fv.ownBlock ≠ some k := by
  obtain ⟨cs, hk⟩ := hk
  refine ⟨fun e => ?_, fun e => ?_, fun e => ?_⟩
  · subst e
    have := hk.symm.trans h.box
    simp at this
  · subst e
    obtain ⟨D, ⟨es, cl, e1, _⟩, _⟩ := h.map
    have := hk.symm.trans e1
    simp at this
  · obtain ⟨h0, _⟩ | ⟨b, cap, cur, h0, _, _, h3, _⟩ := h.row
    · rw [h0] at e
      simp [Value.ownBlock] at e
    · rw [h0] at e
      obtain rfl : b = k := by simpa [Value.ownBlock] using e
      have := hk.symm.trans h3
      simp at this
theorem keepb {W W' : World} {g mb : Nat} {fv : Value} {m : Int → Option Value} {L : Dt} (h : IsDuct W g mb fv m L) (hk : Keeps W W' g mb fv) : KeepB W W' := fun v xs hr => hr.same fun k hv => by
  have hb : ∃ cs, Blk W k 5 cs := by
    obtain ⟨h0, _⟩ | ⟨b, cap, cur, h0, _, _, h3, _⟩ := hr
    · rw [h0] at hv; simp [Value.ownBlock] at hv
    · rw [h0] at hv
      obtain rfl : b = k := by simpa [Value.ownBlock] using hv
      exact ⟨cur, h3⟩
  have hf := bytes_far h hb
  exact hk.block k (hr.lt k hv) hf.1 hf.2.1 hf.2.2
def Out (w W : World) (g mb : Nat) (L : Dt) (r : Value) (e : Ending) (w' : World) : Prop := e = .returned r ∧ Has w w' g mb L ∧ KeepB W w'
theorem put_has (w W : World) (g mb : Nat) (L : Dt) (rv : Value) (xs : List Int) (now : Int) (h : Has w W g mb L) (hs : Byt.Src W rv xs) (hl : L.fates.length < 1000000) (hx : xs.length ≤ 9223372036854775807)
    (hfar : xs ≠ [] → ∀ k, rv.ownBlock = some k → k < w.heap.size ∨ ∃ cs, Blk W k 5 cs) :
    Calls Try.prog 27 #[.pointer (some ⟨g, 0, Option.none⟩), rv, .int .i64 now] W (Out w W g mb (putR L xs now).2.2 (.tuple #[.int .i64 (putR L xs now).1, .int .i64 (putR L xs now).2.1])) := by
  obtain ⟨fv, m, h⟩ := h
  have hf : xs ≠ [] → ∀ k, rv.ownBlock = some k → k ≠ g ∧ k ≠ mb ∧ fv.ownBlock ≠ some k := fun hne k hk => by
    rcases hfar hne k hk with h1 | h1
    · have h2 := h.gb
      have h3 := h.mbb
      exact ⟨by omega, by omega, fun e => by have := h.fb k e; omega⟩
    · exact bytes_far h.d h1
  exact (put1_calls g mb fv m L rv xs now W h.d hs hl (fun hne k hk => ⟨(hf hne k hk).1, (hf hne k hk).2.2⟩) (fun hne k hk _ => (hf hne k hk).2.1) hx).mono fun e W' ⟨he, fv', m', h1, h2, h3⟩ => ⟨he, ⟨fv', m', h.keeps h1 h2 h3⟩, keepb h.d h2⟩
theorem double_has (w W : World) (g mb : Nat) (L : Dt) (id now : Int) (h : Has w W g mb L) (hi : Fits id) (hl : L.fates.length < 1000000) : Calls Try.prog 34 #[.pointer (some ⟨g, 0, Option.none⟩), .int .i64 id, .int .i64 now] W (Out w W g mb (doubleR L id now).2.2 (.tuple #[.int .i64 (doubleR L id now).1, .int .i64 (doubleR L id now).2.1])) := by
  obtain ⟨fv, m, h⟩ := h
  exact (double_calls g mb fv m L id now W h.d hi hl).mono fun e W' ⟨he, fv', m', h1, h2, h3⟩ => ⟨he, ⟨fv', m', h.keeps h1 h2 h3⟩, keepb h.d h2⟩
/-- What comes of Take: the bytes, or why not. -/
def Taken (w W : World) (g mb : Nat) (L' : Dt) (xs : List Int) (e : Ending) (w' : World) : Prop := ∃ v, e = .returned (.tuple #[v, .int .i64 0]) ∧ RowOf 5 1 encB w' v xs ∧ Has w w' g mb L' ∧ KeepB W w'
theorem take_has (w W : World) (g mb : Nat) (L : Dt) (k : Nat) (now : Int) (xs : List Int) (h : Has w W g mb L) (hb : ¬ bad L now) (hr : L.raws k = some xs) : Calls Try.prog 30 #[.pointer (some ⟨g, 0, Option.none⟩), .int .i64 k, .int .i64 now] W (Taken w W g mb (endD L k now 1) xs) := by
  obtain ⟨fv, m, h⟩ := h
  exact (take_ok g mb fv m L k now xs W h.d hb hr).mono fun e W' ⟨v, m', he, h1, h2, h3, h4⟩ => ⟨v, he, h1, ⟨fv, m', h.keeps h2 h3 (fun k hk => .inl hk)⟩, keepb h.d h3⟩
theorem drop_has (w W : World) (g mb : Nat) (L : Dt) (k : Nat) (now : Int) (xs : List Int) (h : Has w W g mb L) (hb : ¬ bad L now) (hr : L.raws k = some xs) : Calls Try.prog 29 #[.pointer (some ⟨g, 0, Option.none⟩), .int .i64 k, .int .i64 now] W (Out w W g mb (endD L k now 2) (.int .i64 0)) := by
  obtain ⟨fv, m, h⟩ := h
  exact (drop_ok g mb fv m L k now xs W h.d hb hr).mono fun e W' ⟨he, fv', m', h1, h2, h3⟩ => ⟨he, ⟨fv', m', h.keeps h1 h2 h3⟩, keepb h.d h2⟩
theorem fields_of {P : Program} {t : TypeId} {fs : Array Field} (hu : P.underlying t = some (.struct fs)) (hp : P.stoodInHeld t = false) (d : Nat) (w : World) (xs ys : Array Value) :
    (Op.equalIn (d + 1) t (.agg xs) (.agg ys)).run P w = (Op.eqFields d xs ys fs.toList).run P w := by
  have hf : P.fieldsOf t = fs := by simp [Program.fieldsOf, hu]
  rw [run_equalIn_struct (P := P) w d t xs ys (by rw [hf]; exact hu) hp, hf]
theorem eq_fates (d : Nat) (w : World) (x0 y0 x1 y1 x2 y2 x3 y3 : Int) :
    (Op.equalIn (d + 2) 65 (.agg #[.int .i64 x0, .int .i64 x1, .int .i64 x2, .int .i64 x3]) (.agg #[.int .i64 y0, .int .i64 y1, .int .i64 y2, .int .i64 y3])).run Try.prog w = .ok (x0 == y0 && (x1 == y1 && (x2 == y2 && (x3 == y3)))) w := by
  rw [fields_of Try.underlying65 (by kernel_rfl)]
  have h3 := Try.underlying3
  simp [Op.eqFields, run_equalIn_int, h3, go_sem]
  by_cases h : x0 = y0
  · by_cases g : x1 = y1
    · by_cases g2 : x2 = y2
      · by_cases g3 : x3 = y3 <;> simp [h, g, g2, g3]
      · simp [h, g, g2]
    · simp [h, g]
  · simp [h]
attribute [local go_sem high] eq_fates
def D1 : Dt := putD empty [1] (-1) 5 5
def D2 : Dt := putD D1 [1] 0 5 5
def D3 : Dt := endD D2 1 9 1
theorem k1 : putR empty [1] 5 = (0, 0, D1) := by
  unfold putR
  rw [if_neg (by unfold bad empty; simp), if_neg (by simp), if_neg (by simp [empty])]
  rfl
theorem k2 : doubleR D1 0 5 = (1, 0, D2) := by
  unfold doubleR
  rw [if_neg (by unfold bad; simp [D1, putD])]
  simp [D1, putD, empty, D2]
theorem k3 : ¬ bad D2 9 := by unfold bad; simp [D2, putD]
theorem k4 : D2.raws ((1 : Nat) : Int) = some [1] := by simp [D2, D1, putD, empty]
theorem k5 : D3.fates.getD 1 default = ⟨0, 5, 9, 1⟩ := by simp [D3, D2, D1, endD, putD, empty]
theorem k6 : ¬ bad D3 9 := by unfold bad; simp [D3, endD]
theorem k7 : D3.raws 1 = Option.none := by simp [D3, endD]
theorem fate_has (w W : World) (g mb : Nat) (L : Dt) (k : Nat) (h : Has w W g mb L) (hk : k < L.fates.length) : Calls Try.prog 28 #[.pointer (some ⟨g, 0, Option.none⟩), .int .i64 k] W (Gives W (.tuple #[fateV (L.fates.getD k default), .bool true])) := by
  obtain ⟨fv, m, h⟩ := h
  exact fate_in g mb fv m L k W h.d hk
theorem drop_no (w W : World) (g mb : Nat) (L : Dt) (id now : Int) (h : Has w W g mb L) (hb : ¬ bad L now) (hi : Fits id) (hr : L.raws id = Option.none) : Calls Try.prog 29 #[.pointer (some ⟨g, 0, Option.none⟩), .int .i64 id, .int .i64 now] W (Same W (.int .i64 10)) := by
  obtain ⟨fv, m, h⟩ := h
  exact drop_none g mb fv m L id now W h.d hb hi hr
set_option maxRecDepth 100000 in
set_option maxHeartbeats 4000000 in
theorem known_calls (w : World) : Calls Try.prog 25 #[] w (Gives w (.bool true)) := by
  go_enter Try.func25, Try.ntmps25
  go_wp2_with fail
  refine (new_has w w (Below.refl _ _)).mono ?_
  rintro e w1 ⟨g, mb, rfl, h1⟩
  have H1 := Lib.hid h1
  clear h1
  go_wp2_with fail
  have P := put_has w (w1.alloc (.cells #[.int .u8 1] 5)) g mb empty (.slice (some ⟨w1.heap.size, 0, Option.none⟩) 1 1) [1] 5 (H1.out.below ((Below.refl _ w1).alloc (Nat.le_refl _) _))
    ⟨_, 1, rfl, fun i x hx => by
      have hi : i = 0 := by have := (List.getElem?_eq_some_iff.1 hx).1; simp at this; omega
      subst hi
      obtain rfl : (1 : Int) = x := by simpa using hx
      refine ⟨_, rfl, by simp, fun j v hv => ?_⟩
      have hj : j = 0 := by have := (List.getElem?_eq_some_iff.1 hv).1; simp [encB] at this; omega
      subst hj
      obtain rfl : Value.int .u8 1 = v := by simpa [encB] using hv
      rw [add0]
      exact (Blk.new w1 5 #[.int .u8 1]).cell 0, fun h => by cases h⟩ (by simp [empty]) (by simp) (fun _ k hk => by
      obtain rfl : w1.heap.size = k := by simpa [Value.ownBlock] using hk
      exact .inr ⟨_, Blk.new w1 5 #[.int .u8 1]⟩)
  rw [k1] at P
  have HP := Lib.hid P
  clear P
  refine HP.out.mono ?_
  rintro e w2 ⟨rfl, h2, _⟩
  have H2 := Lib.hid h2
  clear h2 HP H1
  have P := double_has w w2 g mb D1 0 5 H2.out ⟨by omega, by omega⟩ (by simp [D1, putD, empty])
  rw [k2] at P
  have HP := Lib.hid P
  clear P
  go_wp2_with fail
  refine HP.out.mono ?_
  rintro e w3 ⟨rfl, h3, _⟩
  have H3 := Lib.hid h3
  clear h3 HP H2
  have HP := Lib.hid (take_has w w3 g mb D2 1 9 [1] H3.out k3 k4)
  go_wp2_with fail
  refine HP.out.mono ?_
  rintro e w4 ⟨v, rfl, hrow, h4, _⟩
  obtain ⟨A, c, rfl, _⟩ := hrow.slice
  have H4 := Lib.hid h4
  clear h4 HP H3 hrow
  have HP := Lib.hid (fate_has w w4 g mb D3 1 H4.out (by simp [D3, D2, D1, endD, putD, empty]))
  rw [k5] at HP
  unfold fateV at HP
  go_wp2_with fail
  refine HP.out.mono ?_
  rintro e w5 ⟨rfl, b5⟩
  have H5 := Lib.hid ((show Has w w4 g mb D3 from H4.out).below b5)
  clear b5 HP H4
  have H6 := Lib.hid (H5.out.below ((Below.refl _ w5).alloc (Nat.le_refl _) (.cells #[.int .i64 0, .int .i64 5, .int .i64 9, .int .i64 1] 65)))
  have HP := Lib.hid (drop_no w _ g mb D3 1 9 H6.out k6 ⟨by omega, by omega⟩ k7)
  go_wp2_with fail
  refine HP.out.mono ?_
  rintro e w7 ⟨rfl, rfl⟩
  go_wp2
  go_ret
  obtain ⟨_, _, st⟩ := H6.out
  exact ⟨rfl, st.bel⟩
end Go.Proofs.Ytiphkgkhfomcaaa.Duct
