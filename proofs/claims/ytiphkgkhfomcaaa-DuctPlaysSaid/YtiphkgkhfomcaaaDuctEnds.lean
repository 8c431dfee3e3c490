/- Chapter 25 (duct): Fate; ends, Take, Drop. -/
import Derived.Test.YtiphkgkhfomcaaaDuctDouble
import Derived.Outline
set_option linter.unusedSimpArgs false
set_option linter.unusedVariables false
attribute [local go_sem ↓] Go.wp_at_zero Go.wp_at_succ
namespace Go.Proofs.Ytiphkgkhfomcaaa.Duct
open Go.BigFrame Go.RowKit Go.OpenShut Go.Proofs.Ytiphkgkhfomcaaa.Aid Go.Proofs.Ytiphkgkhfomcaaa.DMap Go.Proofs.Ytiphkgkhfomcaaa.Byt
def fateV (f : Fate) : Value := .agg #[.int .i64 f.of_, .int .i64 f.at_, .int .i64 f.en, .int .i64 f.kind]
theorem fate_none (id : Int) (w : World) : Calls Try.prog 28 #[.pointer Option.none, .int .i64 id] w (Gives w (.tuple #[fateV ⟨0, 0, 0, 0⟩, .bool false])) := by
  by_cases h0 : id < 0
  · go_enter Try.func28, Try.ntmps28
    go_wp2
    refine bodyPost_ret (v := .tuple #[fateV ⟨0, 0, 0, 0⟩, .bool false]) (by simp [results, Try.results28, go_sem, fateV]; done) rfl ⟨rfl, (Below.refl _ w).alloc (Nat.le_refl _) _⟩
  · have h1 : 0 ≤ id := by omega
    go_enter Try.func28, Try.ntmps28
    go_wp2_with (go_at_call 33; refine (total_none _).mono ?_; rintro e w1 ⟨rfl, rfl⟩)
    refine bodyPost_ret (v := .tuple #[fateV ⟨0, 0, 0, 0⟩, .bool false]) (by simp [results, Try.results28, go_sem, fateV]; done) rfl ⟨rfl, (Below.refl _ w).alloc (Nat.le_refl _) _⟩
theorem fate_out (g mb : Nat) (fv : Value) (m : Int → Option Value) (L : Dt) (id : Int) (w : World) (h : IsDuct w g mb fv m L) (hi : id < 0 ∨ (L.fates.length : Int) ≤ id) : Calls Try.prog 28 #[.pointer (some ⟨g, 0, Option.none⟩), .int .i64 id] w (Gives w (.tuple #[fateV ⟨0, 0, 0, 0⟩, .bool false])) := by
  have h1 : id < 0 ∨ (0 ≤ id ∧ (L.fates.length : Int) ≤ id) := by omega
  have K := Lib.hid (fun (W : World) (hb : Below w.heap.size w W) => total_calls g mb fv m L W (h.below hb))
  clear hi h
  generalize L.fates.length = n at *
  rcases h1 with h1 | ⟨h0, h1⟩
  · go_enter Try.func28, Try.ntmps28
    go_wp2
    refine bodyPost_ret (v := .tuple #[fateV ⟨0, 0, 0, 0⟩, .bool false]) (by simp [results, Try.results28, go_sem, fateV]; done) rfl ⟨rfl, (Below.refl _ w).alloc (Nat.le_refl _) _⟩
  · go_enter Try.func28, Try.ntmps28
    go_wp2_with (go_at_call 33; refine (K.out _ ((Below.refl _ w).alloc (Nat.le_refl _) _)).mono ?_; rintro e w1 ⟨rfl, rfl⟩)
    refine bodyPost_ret (v := .tuple #[fateV ⟨0, 0, 0, 0⟩, .bool false]) (by simp [results, Try.results28, go_sem, fateV]; done) rfl ⟨rfl, (Below.refl _ w).alloc (Nat.le_refl _) _⟩
theorem fate_in (g mb : Nat) (fv : Value) (m : Int → Option Value) (L : Dt) (k : Nat) (w : World) (h : IsDuct w g mb fv m L) (hk : k < L.fates.length) : Calls Try.prog 28 #[.pointer (some ⟨g, 0, Option.none⟩), .int .i64 k] w (Gives w (.tuple #[fateV (L.fates.getD k default), .bool true])) := by
  have K := Lib.hid (fun (W : World) (hb : Below w.heap.size w W) => total_calls g mb fv m L W (h.below hb))
  obtain ⟨ad, c, rfl, hcap, had, f0, f1, f2, f3⟩ := fate_cells h.row k hk
  have c1 := h.box.cell 1
  simp at c1
  have hgl := h.box.lt
  have hlen := h.len
  clear h
  generalize L.fates.getD k default = f at *
  generalize L.fates.length = n at *
  have q0 : (0 : Int) ≤ (k : Int) := by omega
  have q1 : (k : Int) < (n : Int) := by omega
  have hab : (ad.add (k * 4)).block = ad.block := by unfold Addr.add; split <;> rfl
  have hne : (ad.add (k * 4)).block < w.heap.size := by omega
  clear hab
  go_enter Try.func28, Try.ntmps28
  go_wp2_with (go_at_call 33; refine (K.out _ ((Below.refl _ w).alloc (Nat.le_refl _) _)).mono ?_; rintro e w1 ⟨rfl, rfl⟩)
  refine bodyPost_ret (v := .tuple #[fateV f, .bool true]) (by simp [results, Try.results28, go_sem, fateV]; done) rfl ⟨rfl, ?_⟩
  first | exact (Below.refl _ w).alloc (Nat.le_refl _) _ | exact (((((Below.refl _ w).alloc (Nat.le_refl _) _).setCell (by simp) _).setCell (by simp) _).setCell (by simp) _).setCell (by simp) _
theorem flat_set (i : Nat) (u : Value) (hi : i < 4) (x' : Fate) : ∀ (xs : List Fate) (k : Nat) (x : Fate), xs[k]? = some x → encF x' = (encF x).set i u → (xs.flatMap encF).set (k * 4 + i) u = (xs.set k x').flatMap encF
  | [], k, x, h, _ => by simp at h
  | y :: r, 0, x, h, e => by
    obtain rfl : y = x := by simpa using h
    simp only [Nat.zero_mul, Nat.zero_add, List.flatMap_cons, List.set_cons_zero, e]
    rw [List.set_append_left _ _ (by rw [encF_len]; exact hi)]
  | y :: r, k + 1, x, h, e => by
    have := flat_set i u hi x' r k x (by simpa using h) e
    simp only [List.flatMap_cons, List.set_cons_succ]
    rw [List.set_append_right _ _ (by rw [encF_len]; omega), encF_len, ← this]
    congr 2
    omega
theorem row_set1 {w : World} {b n cap : Nat} {fs : List Fate} (h : RowOf 65 4 encF w (.slice (some ⟨b, 0, Option.none⟩) n cap) fs) (k i : Nat) (u : Value) (hi : i < 4) (x x' : Fate) (hx : fs[k]? = some x) (e : encF x' = (encF x).set i u) :
    RowOf 65 4 encF (w.setCell ⟨b, k * 4 + i, Option.none⟩ u) (.slice (some ⟨b, 0, Option.none⟩) n cap) (fs.set k x') := by
  obtain ⟨h0, _⟩ | ⟨b', cap', cur, h0, h1, h2, h3, h4, h5⟩ := h
  · injection h0 with h0
    cases h0
  · injection h0 with e1 e2 e3
    obtain rfl : b = b' := by simpa using e1
    subst e2 e3
    have hk : k < fs.length := (List.getElem?_eq_some_iff.1 hx).1
    refine .inr ⟨b, cap, cur.setIfInBounds (k * 4 + i) u, by simp, by simpa using h1, h2, Blk.set_ (t := 65) h3 (k * 4 + i) u, by simpa using h4, ?_⟩
    rw [List.length_set, Array.toList_setIfInBounds, List.take_set, h5]
    exact flat_set i u hi x' fs k x hx e
def endD (L : Dt) (k : Nat) (now kind : Int) : Dt := ⟨now, L.fates.set k ⟨(L.fates.getD k default).of_, (L.fates.getD k default).at_, now, kind⟩, fun i => if i = k then Option.none else L.raws i, L.n - 1⟩
/-- What comes of an end: the bytes are handed over. -/
def Ended (w : World) (g mb : Nat) (fv : Value) (L' : Dt) (xs : List Int) (e : Ending) (w' : World) : Prop :=
  ∃ v m', e = .returned (.tuple #[v, .int .i64 0]) ∧ RowOf 5 1 encB w' v xs ∧ IsDuct w' g mb fv m' L' ∧ Keeps w w' g mb fv ∧ (∀ k, v.ownBlock = some k → k ≠ g ∧ k ≠ mb ∧ fv.ownBlock ≠ some k)
theorem ends_bad (g mb : Nat) (fv : Value) (m : Int → Option Value) (L : Dt) (id now kind : Int) (w : World) (h : IsDuct w g mb fv m L) (hb : bad L now) : Calls Try.prog 52 #[.pointer (some ⟨g, 0, Option.none⟩), .int .i64 id, .int .i64 now, .int .i64 kind] w (Same w (.tuple #[nilS, .int .i64 3])) := by
  have K := Lib.hid (ask_bad g mb fv m L now w h hb)
  clear h hb
  go_enter Try.func52, Try.ntmps52
  go_wp2_with fail
  refine K.out.mono ?_
  rintro e w1 ⟨rfl, rfl⟩
  go_wp2
  go_ret2
  exact ⟨rfl, rfl⟩
theorem ends_none (g mb : Nat) (fv : Value) (m : Int → Option Value) (L : Dt) (id now kind : Int) (w : World) (h : IsDuct w g mb fv m L) (hb : ¬ bad L now) (hi : Fits id) (hr : L.raws id = Option.none) : Calls Try.prog 52 #[.pointer (some ⟨g, 0, Option.none⟩), .int .i64 id, .int .i64 now, .int .i64 kind] w (Same w (.tuple #[nilS, .int .i64 10])) := by
  have K := Lib.hid (ask_ok g mb fv m L now w h (by unfold bad at hb; omega) (by unfold bad at hb; omega))
  have c2 := h.box.cell 2
  simp at c2
  have hlk := h.map.look Try.underlying109 (zero61 w) hi
  have hm : m id = Option.none := by
    rcases h.raw id with ⟨a, _⟩ | ⟨v, xs, a, b, _⟩
    · exact a
    · rw [hr] at b; cases b
  rw [hm] at hlk
  simp only [Option.isSome_none, Option.getD_none] at hlk
  clear h hb hi hr hm
  go_enter Try.func52, Try.ntmps52
  go_wp2_with fail
  refine K.out.mono ?_
  rintro e w1 ⟨rfl, rfl⟩
  go_wp2
  go_ret2
  exact ⟨rfl, rfl⟩
theorem ends_end {w w1 w2 : World} {g mb b cap k : Nat} {m : Int → Option Value} {L : Dt} {now kind : Int} {xs : List Int} {v : Value} {f : Fate} (H : IsDuct w g mb (.slice (some ⟨b, 0, Option.none⟩) L.fates.length cap) m L) (hb : ¬ bad L now) (hv : RowOf 5 1 encB w v xs) (ho : ∀ j, v.ownBlock = some j → j ≠ g ∧ j ≠ mb ∧ (Value.slice (some ⟨b, 0, Option.none⟩) L.fates.length cap).ownBlock ≠ some j)
    (hG : w.grownBy w1 (some mb)) (hf : L.fates[k]? = some f) (R2 : RowOf 65 4 encF w2 (.slice (some ⟨b, 0, Option.none⟩) L.fates.length cap) L.fates) (X2 : Blk w2 g 112 #[.int .i64 now, .slice (some ⟨b, 0, Option.none⟩) L.fates.length cap, .map (some mb)]) (K2 : ∀ j, j ≠ g → w2.heap[j]? = w1.heap[j]?) (M2 : MapOf w2 mb nilS (del m k) (L.n - 1))
    (T2 : w2.os = w1.os ∧ w2.tape = w1.tape ∧ w2.output = w1.output ∧ w2.heap.size = w1.heap.size) :
    Ended w g mb (.slice (some ⟨b, 0, Option.none⟩) L.fates.length cap) (endD L k now kind) xs (.returned (.tuple #[v, .int .i64 0])) ((w2.setCell ⟨b, k * 4 + 2, Option.none⟩ (.int .i64 now)).setCell ⟨b, k * 4 + 3, Option.none⟩ (.int .i64 kind)) := by
  have hgb : g ≠ b := fun e => H.fg (by rw [e]; rfl)
  have hmb : mb ≠ b := fun e => H.fm (by rw [e]; rfl)
  have keep : ∀ j, j < w.heap.size → j ≠ g → j ≠ mb → (Value.slice (some ⟨b, 0, Option.none⟩) L.fates.length cap).ownBlock ≠ some j → ((w2.setCell ⟨b, k * 4 + 2, Option.none⟩ (.int .i64 now)).setCell ⟨b, k * 4 + 3, Option.none⟩ (.int .i64 kind)).heap[j]? = w.heap[j]? := fun j h1 h2 h3 h4 => by
    have hjb : j ≠ b := fun e => h4 (by rw [e]; rfl)
    exact (Below.heap_setCell _ _ _ j hjb).trans ((Below.heap_setCell _ _ _ j hjb).trans ((K2 j h2).trans (hG.block j h1 (fun e => h3 (by simpa using e)))))
  have rowk : ∀ (u : Value) (ys : List Int), RowOf 5 1 encB w u ys → (∀ j, u.ownBlock = some j → j ≠ g ∧ j ≠ mb ∧ (Value.slice (some ⟨b, 0, Option.none⟩) L.fates.length cap).ownBlock ≠ some j) → RowOf 5 1 encB ((w2.setCell ⟨b, k * 4 + 2, Option.none⟩ (.int .i64 now)).setCell ⟨b, k * 4 + 3, Option.none⟩ (.int .i64 kind)) u ys := fun u ys hu hj =>
    hu.same (fun j e => keep j (hu.lt j e) (hj j e).1 (hj j e).2.1 (hj j e).2.2)
  have hgd : L.fates.getD k default = f := by rw [List.getD_eq_getElem?_getD, hf]; rfl
  have hk : k < L.fates.length := (List.getElem?_eq_some_iff.1 hf).1
  have R3 := row_set1 R2 k 2 (.int .i64 now) (by omega) f ⟨f.of_, f.at_, now, f.kind⟩ hf rfl
  have R4 := row_set1 R3 k 3 (.int .i64 kind) (by omega) ⟨f.of_, f.at_, now, f.kind⟩ ⟨f.of_, f.at_, now, kind⟩ (by simp [hk]) rfl
  rw [List.set_set] at R4
  have hsz : w.heap.size ≤ w2.heap.size := by rw [T2.2.2.2]; exact hG.size
  refine ⟨v, del m k, rfl, rowk v xs hv ho, ⟨(X2.far hgb _).far hgb _, ?_, (M2.set_ hmb _).set_ hmb _, fun i => ?_, fun i ys hi => ?_, H.gm, H.fg, H.fm, ?_, ?_, ?_, ?_⟩, ⟨T2.1.trans hG.os, T2.2.1.trans hG.tape, T2.2.2.1.trans hG.output, by simpa [World.setCell] using hsz, keep⟩, ho⟩
  · simp only [endD, hgd]
    exact R4
  · by_cases e : i = k
    · subst e
      exact .inl ⟨by simp [del], by simp [endD]⟩
    · have e2 : del m k i = m i := by simp [del, e]
      have e3 : (endD L k now kind).raws i = L.raws i := by simp [endD, e]
      rw [e2, e3]
      exact (H.raw i).imp id (fun ⟨u, ys, a, b', c, d, f'⟩ => ⟨u, ys, a, b', rowk u ys c f', d, f'⟩)
  · by_cases e : i = k
    · subst e
      simp [endD] at hi
    · simp only [endD, e, if_false] at hi
      have := H.ids i ys hi
      simpa [endD] using this
  · simpa [endD] using H.len
  · have := H.cnt
    simp only [endD, List.length_set]
    omega
  · have := H.l0
    unfold bad at hb
    simp only [endD]
    omega
  · unfold bad at hb
    simp only [endD]
    omega
set_option maxRecDepth 100000 in
set_option maxHeartbeats 4000000 in
theorem ends_ok (g mb : Nat) (fv : Value) (m : Int → Option Value) (L : Dt) (k : Nat) (now kind : Int) (xs : List Int) (w : World) (h : IsDuct w g mb fv m L) (hb : ¬ bad L now) (hr : L.raws k = some xs) :
    Calls Try.prog 52 #[.pointer (some ⟨g, 0, Option.none⟩), .int .i64 k, .int .i64 now, .int .i64 kind] w (Ended w g mb fv (endD L k now kind) xs) := by
  have K := Lib.hid (ask_ok g mb fv m L now w h (by unfold bad at hb; omega) (by unfold bad at hb; omega))
  have H := Lib.hid h
  have hk : k < L.fates.length := by have := (h.ids _ _ hr).2; omega
  have hlen := h.len
  have hfit : Fits (k : Int) := ⟨by omega, by omega⟩
  have c0 := h.box.cell 0
  have c1 := h.box.cell 1
  have c2 := h.box.cell 2
  have fz := h.box.frozen
  simp at c0 c1 c2
  have hlk := h.map.look Try.underlying109 (zero61 w) hfit
  obtain ⟨w1, hrun, hm1, hg1, hs1⟩ := h.map.drop Try.underlying109 hfit 0
  obtain ⟨v, hm, hrow, ho⟩ : ∃ v, m k = some v ∧ RowOf 5 1 encB w v xs ∧ (∀ j, v.ownBlock = some j → j ≠ g ∧ j ≠ mb ∧ fv.ownBlock ≠ some j) := by
    rcases h.raw k with ⟨a, b⟩ | ⟨v, ys, a, b, c, d, e⟩
    · rw [hr] at b; cases b
    · rw [hr] at b
      obtain rfl : xs = ys := by simpa using b
      exact ⟨v, a, c, e⟩
  rw [hm] at hlk hm1
  simp only [Option.isSome_some, Option.getD_some, if_true] at hlk hm1
  obtain ⟨b, cap, rfl, hcap⟩ : ∃ b cap, fv = .slice (some ⟨b, 0, Option.none⟩) L.fates.length cap ∧ L.fates.length ≤ cap := by
    obtain ⟨_, h0⟩ | ⟨b, cap, cur, h0, h1, _⟩ := h.row
    · rw [h0] at hk; simp at hk
    · exact ⟨b, cap, h0, h1⟩
  have q0 : (0 : Int) ≤ (k : Int) := by omega
  have q1 : (k : Int) < (L.fates.length : Int) := by omega
  have HB := Lib.hid hb
  have HM1 := Lib.hid hm1
  have HG1 := Lib.hid hg1
  have HS1 := Lib.hid hs1
  have HRow := Lib.hid (And.intro hrow ho)
  have X1 : Blk w1 g 112 #[.int .i64 L.last, .slice (some ⟨b, 0, Option.none⟩) L.fates.length cap, .map (some mb)] := (hg1.block g h.box.lt (fun e => h.gm (by simpa using e))).trans h.box
  have d0 := X1.cell 0
  have d1 := X1.cell 1
  have df := X1.frozen
  simp at d0 d1
  have HX1 := Lib.hid X1
  obtain ⟨vA, vn, vc, rfl⟩ := hrow.some_slice
  clear h hb hr hm hrow ho hm1 hg1 hs1 X1 hfit
  go_enter Try.func52, Try.ntmps52
  go_wp2_with fail
  refine K.out.mono ?_
  rintro e w9 ⟨rfl, rfl⟩
  go_upto_region 9 with fail
  obtain ⟨f, hf⟩ : ∃ f, L.fates[k]? = some f := ⟨_, List.getElem?_eq_getElem hk⟩
  have hgb : g ≠ b := fun e => H.out.fg (by rw [e]; rfl)
  have hmb : mb ≠ b := fun e => H.out.fm (by rw [e]; rfl)
  have R1 : RowOf 65 4 encF w1 (.slice (some ⟨b, 0, Option.none⟩) L.fates.length cap) L.fates := H.out.row.same (fun j hj => by
    obtain rfl : b = j := by simpa [Value.ownBlock] using hj
    exact HG1.out.block b (H.out.row.lt b rfl) (fun e => hmb (by simpa using e.symm)))
  have R2 := R1.same (w' := w1.setCell ⟨g, 0, Option.none⟩ (.int .i64 now)) (fun j hj => by
    obtain rfl : b = j := by simpa [Value.ownBlock] using hj
    exact Below.heap_setCell w1 _ _ b (fun e => hgb e.symm))
  have X2 := (HX1.out.set_ 0 (.int .i64 now)).eq (cs' := #[.int .i64 now, .slice (some ⟨b, 0, Option.none⟩) L.fates.length cap, .map (some mb)]) (by simp)
  have K2 : ∀ j, j ≠ g → (w1.setCell ⟨g, 0, Option.none⟩ (.int .i64 now)).heap[j]? = w1.heap[j]? := fun j hj => Below.heap_setCell w1 _ _ j hj
  have M2 : MapOf (w1.setCell ⟨g, 0, Option.none⟩ (.int .i64 now)) mb nilS (del m k) (L.n - 1) := HM1.out.set_ (fun e => H.out.gm e.symm) _
  have T2 : (w1.setCell ⟨g, 0, Option.none⟩ (.int .i64 now)).os = w1.os ∧ (w1.setCell ⟨g, 0, Option.none⟩ (.int .i64 now)).tape = w1.tape ∧ (w1.setCell ⟨g, 0, Option.none⟩ (.int .i64 now)).output = w1.output ∧ (w1.setCell ⟨g, 0, Option.none⟩ (.int .i64 now)).heap.size = w1.heap.size := ⟨rfl, rfl, rfl, by simp [World.setCell]⟩
  generalize w1.setCell ⟨g, 0, Option.none⟩ (.int .i64 now) = w2 at *
  have e2 : w2.cell? ⟨b, k * 4 + 2, Option.none⟩ = some (.int .i64 f.en) := R2.cell encF_len _ _ (flat_get encF 4 encF_len L.fates k f 2 _ hf rfl)
  have e3 : w2.cell? ⟨b, k * 4 + 3, Option.none⟩ = some (.int .i64 f.kind) := R2.cell encF_len _ _ (flat_get encF 4 encF_len L.fates k f 3 _ hf rfl)
  have fb : ∀ i, w2.frozen? ⟨b, i, Option.none⟩ = false := by
    obtain ⟨h0, _⟩ | ⟨b', cap', cur, h0, _, _, h3, _⟩ := R2
    · injection h0 with h0; cases h0
    · injection h0 with h0
      obtain rfl : b = b' := by simpa using h0
      exact fun i => Blk.frozen h3 i
  have x1 := X2.cell 1
  simp at x1
  have ne1 : ¬ g = b := hgb
  have ne2 : ¬ b = g := fun e => hgb e.symm
  have HF := Lib.hid (And.intro hf (And.intro R2 (And.intro X2 (And.intro K2 (And.intro M2 T2)))))
  clear hf R2 X2 K2 M2 T2 R1 hlk hrun c0 c1 c2 d0 d1 fz df
  go_region_held3 (fun w' => w'.cell? ⟨g, 1, Option.none⟩ = some (.slice (some ⟨b, 0, Option.none⟩) L.fates.length cap)) (go_keep) (fail)
  all_goals
    go_wp2
    go_ret2
    obtain ⟨hf, R2, X2, K2, M2, T2⟩ := HF.out
    have E := ends_end (kind := kind) H.out HB.out HRow.out.1 HRow.out.2 HG1.out hf R2 X2 K2 M2 T2
    first
    | exact E
    | (obtain ⟨v9, m9, z1, z2, z3, z4, z5⟩ := E
       exact ⟨v9, m9, z1, z2, z3.below (below_drew (Below.refl _ _)), keeps_below z4 (below_drew (Below.refl _ _)), z5⟩)
end Go.Proofs.Ytiphkgkhfomcaaa.Duct
