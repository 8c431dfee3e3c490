/- A slice whose room lies whole in one block: what 'append' makes of it, with or without room. No program in it, no conditions of ours. -/
import Derived.Test.YtiphkgkhfomcaaaAid
import Derived.ArgAppend
import Derived.Laws.AppendOwn
import Derived.Deep.Upon
import Derived.Laws.IdiomCopy
namespace Go.Proofs.Ytiphkgkhfomcaaa.Aid
open Go.RowKit
theorem add0 (b k : Nat) : (⟨b, 0, none⟩ : Addr).add k = ⟨b, k, none⟩ := by
  unfold Addr.add
  by_cases h : k = 0
  · subst h; rfl
  · simp [h]
section
variable {α : Type}
/-- A slice that is none, or lies at the head of a block that holds its room. -/
def RowOf (e : TypeId) (sz : Nat) (enc : α → List Value) (w : World) (v : Value) (xs : List α) : Prop :=
  (v = .slice none 0 0 ∧ xs = []) ∨ ∃ b cap cur, v = .slice (some ⟨b, 0, none⟩) xs.length cap ∧ xs.length ≤ cap ∧ cap ≤ 9223372036854775807 ∧ w.heap[b]? = some (.cells cur e (0, 0)) ∧ cap * sz ≤ cur.size ∧ cur.toList.take (xs.length * sz) = xs.flatMap enc
/-- What an append of a row turns: the row's own block, and new ones. -/
structure App (w w' : World) (v v' : Value) : Prop where
  os : w'.os = w.os
  tape : w'.tape = w.tape
  output : w'.output = w.output
  size : w.heap.size ≤ w'.heap.size
  block : ∀ k, k < w.heap.size → v.ownBlock ≠ some k → w'.heap[k]? = w.heap[k]?
  own : ∀ k, v'.ownBlock = some k → v.ownBlock = some k ∨ w.heap.size ≤ k
  live : v' = .slice none 0 0 → v = .slice none 0 0
theorem RowOf.lt {e : TypeId} {sz : Nat} {enc : α → List Value} {w : World} {v : Value} {xs : List α} (h : RowOf e sz enc w v xs) (k : Nat) (hk : v.ownBlock = some k) : k < w.heap.size := by
  obtain ⟨rfl, _⟩ | ⟨b, cap, cur, rfl, _, _, hb, _⟩ := h
  · simp [Value.ownBlock] at hk
  · have : b = k := by simpa [Value.ownBlock] using hk
    subst this
    exact Blk.lt hb
theorem RowOf.same {e : TypeId} {sz : Nat} {enc : α → List Value} {w w' : World} {v : Value} {xs : List α} (h : RowOf e sz enc w v xs) (hb : ∀ k, v.ownBlock = some k → w'.heap[k]? = w.heap[k]?) : RowOf e sz enc w' v xs := by
  obtain ⟨rfl, h1⟩ | ⟨b, cap, cur, rfl, h1, h2, h3, h4, h5⟩ := h
  · exact .inl ⟨rfl, h1⟩
  · exact .inr ⟨b, cap, cur, rfl, h1, h2, (hb b (by simp [Value.ownBlock])).trans h3, h4, h5⟩
theorem RowOf.below {e : TypeId} {sz : Nat} {enc : α → List Value} {w w' : World} {v : Value} {xs : List α} (h : RowOf e sz enc w v xs) (hb : Below w.heap.size w w') : RowOf e sz enc w' v xs := h.same fun k hk => hb.block k (h.lt k hk)
theorem RowOf.slice {e : TypeId} {sz : Nat} {enc : α → List Value} {w : World} {v : Value} {xs : List α} (h : RowOf e sz enc w v xs) : ∃ A cap, v = .slice A xs.length cap ∧ xs.length ≤ cap := by
  obtain ⟨rfl, rfl⟩ | ⟨b, cap, cur, rfl, h1, h2, h3, h4, h5⟩ := h
  · exact ⟨_, _, rfl, Nat.le_refl _⟩
  · exact ⟨_, _, rfl, h1⟩
theorem RowOf.some_slice {e : TypeId} {sz : Nat} {enc : α → List Value} {w : World} {v : Value} {xs : List α} (h : RowOf e sz enc w v xs) : ∃ A n cap, v = .slice A n cap := by
  obtain ⟨A, cap, h1, _⟩ := h.slice
  exact ⟨_, _, _, h1⟩
theorem length_flat (enc : α → List Value) (sz : Nat) (henc : ∀ x, (enc x).length = sz) (xs : List α) : (xs.flatMap enc).length = xs.length * sz := by
  induction xs with
  | nil => simp
  | cons x xs ih => rw [List.flatMap_cons, List.length_append, ih, henc, List.length_cons]; rw [Nat.add_mul]; omega
/-- The j-th cell of the i-th element. -/
theorem flat_get (enc : α → List Value) (sz : Nat) (henc : ∀ x, (enc x).length = sz) : ∀ (xs : List α) (i : Nat) (x : α) (j : Nat) (v : Value), xs[i]? = some x → (enc x)[j]? = some v → (xs.flatMap enc)[i * sz + j]? = some v := by
  intro xs
  induction xs with
  | nil => intro i x j v hx; simp at hx
  | cons y xs ih =>
    intro i x j v hx hv
    have hj : j < sz := by rw [← henc x]; exact (List.getElem?_eq_some_iff.1 hv).1
    rw [List.flatMap_cons]
    cases i with
    | zero =>
      obtain rfl : y = x := by simpa using hx
      rw [Nat.zero_mul, Nat.zero_add, List.getElem?_append_left (by rw [henc]; exact hj)]
      exact hv
    | succ i =>
      rw [List.getElem?_append_right (by rw [henc, Nat.add_mul]; omega), henc]
      have := ih i x j v (by simpa using hx) hv
      rw [show (i + 1) * sz + j - sz = i * sz + j by rw [Nat.add_mul]; omega]
      exact this
theorem RowOf.cell {e : TypeId} {sz : Nat} {enc : α → List Value} {w : World} {b n cap : Nat} {xs : List α} (henc : ∀ x, (enc x).length = sz) (h : RowOf e sz enc w (.slice (some ⟨b, 0, none⟩) n cap) xs) (j : Nat) (u : Value) (hu : (xs.flatMap enc)[j]? = some u) : w.cell? ⟨b, j, none⟩ = some u := by
  obtain ⟨h0, _⟩ | ⟨b', cap', cur, h0, h1, h2, h3, h4, h5⟩ := h
  · cases h0
  · injection h0 with h0 h6 h7
    obtain rfl : b = b' := by simpa using h0
    have hc : Blk w b e cur := h3
    rw [hc.cell j]
    have hj : j < xs.length * sz := by rw [← length_flat enc sz henc]; exact (List.getElem?_eq_some_iff.1 hu).1
    rw [← h5, List.getElem?_take_of_lt hj] at hu
    simpa using hu
theorem RowOf.reps {e : TypeId} {sz : Nat} {enc : α → List Value} {w : World} {v : Value} {xs : List α} (henc : ∀ x, (enc x).length = sz) (h : RowOf e sz enc w v xs) : ∃ A cap, v = .slice A xs.length cap ∧ xs.length ≤ cap ∧ Reps w A sz enc xs := by
  have hh := h
  obtain ⟨rfl, rfl⟩ | ⟨b, cap, cur, rfl, h1, h2, h3, h4, h5⟩ := h
  · exact ⟨_, _, rfl, Nat.le_refl _, by intro i x hx; simp at hx⟩
  · refine ⟨_, _, rfl, h1, fun i x hx => ⟨_, rfl, Blk.lt h3, fun j u hu => ?_⟩⟩
    have := hh.cell henc (i * sz + j) u (flat_get enc sz henc xs i x j u hx hu)
    rw [add0]; exact this
theorem setCells_blk {g : Nat} {t : TypeId} : ∀ (vs : List Value) (o : Nat) (w : World) (cur : Array Value), Blk w g t cur → o + vs.length ≤ cur.size →
    ∃ cur', Blk (w.setCells g o vs) g t cur' ∧ cur'.size = cur.size ∧ cur'.toList = cur.toList.take o ++ vs ++ cur.toList.drop (o + vs.length)
  | [], o, w, cur, h, _ => ⟨cur, h, rfl, by simp⟩
  | v :: r, o, w, cur, h, hl => by
    have h2 := h.set_ o v
    simp only [List.length_cons] at hl
    obtain ⟨cur', h3, h4, h5⟩ := setCells_blk r (o + 1) (w.setCell ⟨g, o, none⟩ v) _ h2 (by simp; omega)
    refine ⟨cur', h3, by rw [h4]; simp, ?_⟩
    rw [h5, Array.toList_setIfInBounds]
    have ho : o < cur.toList.length := by rw [Array.length_toList]; omega
    rw [List.take_set, List.drop_set_of_lt (by omega)]
    simp only [List.length_cons]
    rw [show o + 1 + r.length = o + (r.length + 1) by omega]
    rw [List.take_succ_eq_append_getElem ho, List.set_append_right _ _ (by simp; omega)]
    have : o - (List.take o cur.toList).length = 0 := by rw [List.length_take]; omega
    rw [this]
    simp
theorem setCells_far {g : Nat} : ∀ (vs : List Value) (o : Nat) (w : World) (k : Nat), k ≠ g → (w.setCells g o vs).heap[k]? = w.heap[k]?
  | [], _, _, _, _ => rfl
  | v :: r, o, w, k, hk => (setCells_far r (o + 1) _ k hk).trans (Below.heap_setCell w ⟨g, o, none⟩ v k hk)
theorem setCells_rest (g : Nat) : ∀ (vs : List Value) (o : Nat) (w : World), (w.setCells g o vs).os = w.os ∧ (w.setCells g o vs).tape = w.tape ∧ (w.setCells g o vs).output = w.output ∧ (w.setCells g o vs).heap.size = w.heap.size
  | [], _, _ => ⟨rfl, rfl, rfl, rfl⟩
  | v :: r, o, w => by
    obtain ⟨a, b, c, d⟩ := setCells_rest g r (o + 1) (w.setCell ⟨g, o, none⟩ v)
    exact ⟨a, b, c, d.trans (by simp [World.setCell])⟩
theorem own_ge {g n c k B : Nat} (h : (Value.slice (some ⟨g, 0, none⟩) n c).ownBlock = some k) (hg : B ≤ g) : B ≤ k := by
  have : g = k := by simpa [Value.ownBlock] using h
  omega
theorem run_append_row {P : Program} {e : TypeId} {sz : Nat} {enc : α → List Value} (w : World) (t ty : TypeId) (i : TypeInfo) (z : Value) (bytes : Nat) (ht : P.underlying t = some (.slice e)) (hi : P.info? e = some i) (hz : i.zero = some z)
    (hsize : i.size = sz) (hby : i.bytes = bytes) (hzs : z.cells.size = sz) (hsz : 0 < sz) (henc : ∀ x, (enc x).length = sz) (hone : ∀ x, ∀ u ∈ enc x, u.oneCell' = true)
    (v : Value) (xs : List α) (hrow : RowOf e sz enc w v xs) (ad : Addr) (m c : Nat) (ys : List α) (hm : ys.length = m) (hsrc : ∀ j u, (ys.flatMap enc)[j]? = some u → w.cell? (ad.add j) = some u)
    (h63 : xs.length + m ≤ maxLen) (hbytes : (xs.length + m) * bytes ≤ 140737488355328) :
    ∃ v' w', (Builtin.append_ #[t, t] ty #[v, .slice (some ad) m c]).run P w = .ok v' w' ∧ RowOf e sz enc w' v' (xs ++ ys) ∧ App w w' v v' := by
  subst hm
  have hnl := length_flat enc sz henc ys
  have h1 : ∀ u ∈ ys.flatMap enc, u.oneCell' = true := fun u hu => by
    obtain ⟨x, _, hx⟩ := List.mem_flatMap.1 hu
    exact hone x u hx
  have grown : ∀ v' w', w'.ownsRow w.heap.size e sz v' (xs.length + ys.length) (xs.flatMap enc ++ ys.flatMap enc) → w.grownBy w' none → (v = .slice none 0 0 ∨ 0 < xs.length + ys.length) → RowOf e sz enc w' v' (xs ++ ys) ∧ App w w' v v' := by
    intro v' w' ho hg hp
    obtain ⟨_, ⟨rfl, h0⟩ | ⟨g, cap', cur', rfl, g1, g2, g3, g4, g5, g6⟩⟩ := ho
    · have hvn : v = .slice none 0 0 := hp.resolve_right (by omega)
      obtain rfl : xs = [] := List.eq_nil_of_length_eq_zero (by omega)
      obtain rfl : ys = [] := List.eq_nil_of_length_eq_zero (by omega)
      exact ⟨.inl ⟨rfl, rfl⟩, ⟨hg.os, hg.tape, hg.output, hg.size, fun k hk _ => hg.block k hk (by simp), fun k hk => by simp [Value.ownBlock] at hk, fun _ => hvn⟩⟩
    · refine ⟨.inr ⟨g, cap', cur', by rw [List.length_append], by rw [List.length_append]; exact g3, by unfold maxLen at g4; omega, g2, by omega, by rw [List.length_append, g6, List.flatMap_append]⟩, ?_⟩
      exact ⟨hg.os, hg.tape, hg.output, hg.size, fun k hk _ => hg.block k hk (by simp), fun k hk => .inr (own_ge hk g1), fun h => by cases h⟩
  have hrow' := hrow
  obtain ⟨rfl, rfl⟩ | ⟨b, cap, cur, rfl, r1, r2, r3, r4, r5⟩ := hrow
  · obtain ⟨v', w', hrun, q1, q2, _⟩ := run_append_own (P := P) w w.heap.size t ty e i z sz bytes ht hi hz hsize hby hzs hsz (.slice none 0 0) 0 [] (World.ownsRow_nil w _ e sz) ad ys.length c (ys.flatMap enc) hnl hsrc h1 (by simpa using h63) (by simpa using hbytes) (Nat.le_refl _)
    exact ⟨v', w', hrun, grown v' w' (by simpa using q1) q2 (.inl rfl)⟩
  · have hxl := length_flat enc sz henc xs
    by_cases hroom : xs.length + ys.length ≤ cap
    · subst hsize
      have hle : xs.length * i.size + (ys.flatMap enc).length ≤ cur.size := by
        rw [hnl, ← Nat.add_mul]
        exact Nat.le_trans (Nat.mul_le_mul_right _ hroom) r4
      have hB : Blk w b e cur := r3
      have hrun := run_append_room_cells (P := P) w t ty e i ht hi b 0 xs.length cap ad ys.length c (ys.flatMap enc) hnl hsrc h1 hroom (fun j hj => by
        rw [hB.cell, Array.getElem?_eq_getElem (by omega)]; rfl) (fun j _ => hB.frozen _)
      refine ⟨_, _, hrun, ?_, ?_⟩
      · obtain ⟨cur', s1, s2, s3⟩ := setCells_blk (ys.flatMap enc) (0 + xs.length * i.size) w cur hB (by omega)
        refine .inr ⟨b, cap, cur', by rw [List.length_append], by rw [List.length_append]; exact hroom, r2, s1, by rw [s2]; exact r4, ?_⟩
        rw [s3, List.length_append, List.flatMap_append, Nat.add_mul, Nat.zero_add, r5]
        rw [List.take_append_of_le_length (by rw [List.length_append, hxl, hnl]; omega)]
        rw [List.take_of_length_le (by rw [List.length_append, hxl, hnl]; omega)]
      · obtain ⟨s1, s2, s3, s4⟩ := setCells_rest b (ys.flatMap enc) (0 + xs.length * i.size) w
        exact ⟨s1, s2, s3, by omega, fun k _ hk => setCells_far _ _ _ k (fun e => hk (by rw [e]; rfl)), fun k hk => .inl hk, fun h => by cases h⟩
    · obtain ⟨v', w', hrun, q1, q2⟩ := run_append_arg_grows (P := P) w t ty e i z sz bytes ht hi hz hsize hby hzs hsz ⟨b, 0, none⟩ xs.length cap (xs.flatMap enc) hxl (fun j u hu => by
        rw [add0]; exact hrow'.cell henc j u hu) ad ys.length c (ys.flatMap enc) hnl hsrc (by omega) h63 hbytes
      exact ⟨v', w', hrun, grown v' w' q1 q2 (.inr (by omega))⟩
theorem run_append_nil {P : Program} {e : TypeId} {sz : Nat} {enc : α → List Value} (w : World) (t ty : TypeId) (i : TypeInfo) (ht : P.underlying t = some (.slice e)) (hi : P.info? e = some i)
    (v : Value) (xs : List α) (hrow : RowOf e sz enc w v xs) : (Builtin.append_ #[t, t] ty #[v, .slice none 0 0]).run P w = .ok v w := by
  obtain ⟨rfl, rfl⟩ | ⟨b, cap, cur, rfl, r1, r2, r3, r4, r5⟩ := hrow
  · simp [Builtin.append_, run_underlying ht, sizeOf, typeInfo, hi, Builtin.lenOf, Builtin.firstCells]
  · simp [Builtin.append_, run_underlying ht, sizeOf, typeInfo, hi, Builtin.lenOf, r1, Builtin.firstCells, storeCells]
/-- The same, as a step of a region that draws its order. -/
theorem step_append_row {P : Program} {ops : Array Oper} {o : Oper} {a : Act} {w : World} {K : Act → World → Prop} {Q : Exit → Act → World → Prop} {E : Prop} {e : TypeId} {sz : Nat} {enc : α → List Value}
    (hg : o.guard = none) (s x : Operand) (t : TypeId) (hop : o.op = Op.call { callee := Callee.builtin Builtin.append, args := #[s, x], argTypes := #[t, t] })
    (i : TypeInfo) (z : Value) (bytes : Nat) (ht : P.underlying t = some (.slice e)) (hi : P.info? e = some i) (hz : i.zero = some z)
    (hsize : i.size = sz) (hby : i.bytes = bytes) (hzs : z.cells.size = sz) (hsz : 0 < sz) (henc : ∀ x, (enc x).length = sz) (hone : ∀ x, ∀ u ∈ enc x, u.oneCell' = true)
    (v : Value) (xs : List α) (hs : a.eval s = v) (hrow : RowOf e sz enc w v xs) (ad : Addr) (m c : Nat) (ys : List α) (hm : ys.length = m) (hx : a.eval x = .slice (some ad) m c) (hsrc : ∀ j u, (ys.flatMap enc)[j]? = some u → w.cell? (ad.add j) = some u)
    (h63 : xs.length + m ≤ maxLen) (hbytes : (xs.length + m) * bytes ≤ 140737488355328)
    (hK : ∀ v' w', RowOf e sz enc w' v' (xs ++ ys) → App w w' v v' → K (a.put o.dst v') w') :
    if Region.wanted o (yielded ops a.tmps) = true then Oper.wp P o a w K Q else E := by
  have hw : Region.wanted o (yielded ops a.tmps) = true := by simp [Region.wanted, hg]
  rw [if_pos hw]
  obtain ⟨v', w', hrun, r1, r2⟩ := run_append_row (P := P) w t o.type i z bytes ht hi hz hsize hby hzs hsz henc hone v xs hrow ad m c ys hm hsrc h63 hbytes
  unfold Oper.wp
  simp [execOp, hop, resolve, invoke, builtin, hs, hx, hrun, Result.andThen]
  exact hK v' w' r1 r2
/-- The same, at the list of operations of a plain region. -/
theorem wpList_append_row {P : Program} {ops : Array Oper} {rest : List Oper} {o : Oper} {a : Act} {w : World} {Q : Exit → Act → World → Prop} {e : TypeId} {sz : Nat} {enc : α → List Value}
    (hg : o.guard = none) (s x : Operand) (t : TypeId) (hop : o.op = Op.call { callee := Callee.builtin Builtin.append, args := #[s, x], argTypes := #[t, t] })
    (i : TypeInfo) (z : Value) (bytes : Nat) (ht : P.underlying t = some (.slice e)) (hi : P.info? e = some i) (hz : i.zero = some z)
    (hsize : i.size = sz) (hby : i.bytes = bytes) (hzs : z.cells.size = sz) (hsz : 0 < sz) (henc : ∀ x, (enc x).length = sz) (hone : ∀ x, ∀ u ∈ enc x, u.oneCell' = true)
    (v : Value) (xs : List α) (hs : a.eval s = v) (hrow : RowOf e sz enc w v xs) (ad : Addr) (m c : Nat) (ys : List α) (hm : ys.length = m) (hx : a.eval x = .slice (some ad) m c) (hsrc : ∀ j u, (ys.flatMap enc)[j]? = some u → w.cell? (ad.add j) = some u)
    (h63 : xs.length + m ≤ maxLen) (hbytes : (xs.length + m) * bytes ≤ 140737488355328)
    (hK : ∀ v' w', RowOf e sz enc w' v' (xs ++ ys) → App w w' v v' → wpList P ops Q rest (a.put o.dst v') w') : wpList P ops Q (o :: rest) a w := by
  obtain ⟨v', w', hrun, r1, r2⟩ := run_append_row (P := P) w t o.type i z bytes ht hi hz hsize hby hzs hsz henc hone v xs hrow ad m c ys hm hsrc h63 hbytes
  refine wpList_plain hg fun K hKK => ?_
  unfold Oper.wp
  simp [execOp, hop, resolve, invoke, builtin, hs, hx, hrun, Result.andThen]
  exact hKK _ _ (hK v' w' r1 r2)
theorem flat_split (enc : α → List Value) (sz : Nat) (hsz : 0 < sz) (henc : ∀ x, (enc x).length = sz) : ∀ (ys : List α) (j : Nat) (u : Value), (ys.flatMap enc)[j]? = some u → ∃ x, ys[j / sz]? = some x ∧ (enc x)[j % sz]? = some u
  | [], j, u, h => by simp at h
  | y :: ys, j, u, h => by
    rw [List.flatMap_cons] at h
    by_cases hj : j < sz
    · rw [List.getElem?_append_left (by rw [henc]; exact hj)] at h
      exact ⟨y, by rw [Nat.div_eq_of_lt hj]; rfl, by rw [Nat.mod_eq_of_lt hj]; exact h⟩
    · rw [List.getElem?_append_right (by rw [henc]; omega), henc] at h
      obtain ⟨x, h1, h2⟩ := flat_split enc sz hsz henc ys (j - sz) u h
      have e1 : j / sz = (j - sz) / sz + 1 := by
        have := Nat.add_div_right (j - sz) hsz
        rw [show j - sz + sz = j by omega] at this
        omega
      have e2 : j % sz = (j - sz) % sz := by
        have := Nat.add_mod_right (j - sz) sz
        rw [show j - sz + sz = j by omega] at this
        exact this
      exact ⟨x, by rw [e1]; exact h1, by rw [e2]; exact h2⟩
theorem app_refl (w : World) (v : Value) : App w w v v := ⟨rfl, rfl, rfl, Nat.le_refl _, fun _ _ _ => rfl, fun _ hk => .inl hk, fun h => h⟩
theorem below_app {w W w' : World} {v v' : Value} (hb : Below w.heap.size w W) (ha : App W w' v v') (hv : ∀ k, v.ownBlock = some k → w.heap.size ≤ k) : Below w.heap.size w w' :=
  ⟨ha.os.trans hb.os, ha.tape.trans hb.tape, ha.output.trans hb.output, Nat.le_trans hb.size ha.size, fun k hk => (ha.block k (Nat.lt_of_lt_of_le hk hb.size) (fun e => by
    have := hv k e
    omega)).trans (hb.block k hk)⟩
theorem run_append_any {P : Program} {e : TypeId} {sz : Nat} {enc : α → List Value} (w : World) (t ty : TypeId) (i : TypeInfo) (z : Value) (bytes : Nat) (ht : P.underlying t = some (.slice e)) (hi : P.info? e = some i) (hz : i.zero = some z)
    (hsize : i.size = sz) (hby : i.bytes = bytes) (hzs : z.cells.size = sz) (hsz : 0 < sz) (henc : ∀ x, (enc x).length = sz) (hone : ∀ x, ∀ u ∈ enc x, u.oneCell' = true)
    (v : Value) (xs : List α) (hrow : RowOf e sz enc w v xs) (A : Option Addr) (m c : Nat) (ys : List α) (hm : ys.length = m) (hA : A = none → c = 0) (hR : Reps w A sz enc ys)
    (h63 : xs.length + m ≤ maxLen) (hbytes : (xs.length + m) * bytes ≤ 140737488355328) :
    ∃ v' w', (Builtin.append_ #[t, t] ty #[v, .slice A m c]).run P w = .ok v' w' ∧ RowOf e sz enc w' v' (xs ++ ys) ∧ App w w' v v' := by
  cases A with
  | none =>
    have hy : ys = [] := by
      cases ys with
      | nil => rfl
      | cons y ys =>
        obtain ⟨ad, h, _⟩ := hR 0 y rfl
        cases h
    subst hy
    obtain rfl : m = 0 := by simpa using hm.symm
    obtain rfl : c = 0 := hA rfl
    exact ⟨v, w, run_append_nil w t ty i ht hi v xs hrow, by simpa using hrow, app_refl _ _⟩
  | some ad =>
    refine run_append_row w t ty i z bytes ht hi hz hsize hby hzs hsz henc hone v xs hrow ad m c ys hm ?_ h63 hbytes
    intro j u hu
    obtain ⟨x, h1, h2⟩ := flat_split enc sz hsz henc ys j u hu
    obtain ⟨ad', e', _, hc⟩ := hR _ x h1
    cases e'
    have := hc _ u h2
    rw [Nat.div_add_mod' j sz] at this
    exact this
theorem step_append_any {P : Program} {ops : Array Oper} {o : Oper} {a : Act} {w : World} {K : Act → World → Prop} {Q : Exit → Act → World → Prop} {E : Prop} {e : TypeId} {sz : Nat} {enc : α → List Value}
    (hg : o.guard = none) (s x : Operand) (t : TypeId) (hop : o.op = Op.call { callee := Callee.builtin Builtin.append, args := #[s, x], argTypes := #[t, t] })
    (i : TypeInfo) (z : Value) (bytes : Nat) (ht : P.underlying t = some (.slice e)) (hi : P.info? e = some i) (hz : i.zero = some z)
    (hsize : i.size = sz) (hby : i.bytes = bytes) (hzs : z.cells.size = sz) (hsz : 0 < sz) (henc : ∀ x, (enc x).length = sz) (hone : ∀ x, ∀ u ∈ enc x, u.oneCell' = true)
    (v : Value) (xs : List α) (hs : a.eval s = v) (hrow : RowOf e sz enc w v xs) (A : Option Addr) (m c : Nat) (ys : List α) (hm : ys.length = m) (hx : a.eval x = .slice A m c) (hA : A = none → c = 0) (hR : Reps w A sz enc ys)
    (h63 : xs.length + m ≤ maxLen) (hbytes : (xs.length + m) * bytes ≤ 140737488355328)
    (hK : ∀ v' w', RowOf e sz enc w' v' (xs ++ ys) → App w w' v v' → K (a.put o.dst v') w') :
    if Region.wanted o (yielded ops a.tmps) = true then Oper.wp P o a w K Q else E := by
  have hw : Region.wanted o (yielded ops a.tmps) = true := by simp [Region.wanted, hg]
  rw [if_pos hw]
  obtain ⟨v', w', hrun, r1, r2⟩ := run_append_any (P := P) w t o.type i z bytes ht hi hz hsize hby hzs hsz henc hone v xs hrow A m c ys hm hA hR h63 hbytes
  unfold Oper.wp
  simp [execOp, hop, resolve, invoke, builtin, hs, hx, hrun, Result.andThen]
  exact hK v' w' r1 r2
theorem wpList_append_any {P : Program} {ops : Array Oper} {rest : List Oper} {o : Oper} {a : Act} {w : World} {Q : Exit → Act → World → Prop} {e : TypeId} {sz : Nat} {enc : α → List Value}
    (hg : o.guard = none) (s x : Operand) (t : TypeId) (hop : o.op = Op.call { callee := Callee.builtin Builtin.append, args := #[s, x], argTypes := #[t, t] })
    (i : TypeInfo) (z : Value) (bytes : Nat) (ht : P.underlying t = some (.slice e)) (hi : P.info? e = some i) (hz : i.zero = some z)
    (hsize : i.size = sz) (hby : i.bytes = bytes) (hzs : z.cells.size = sz) (hsz : 0 < sz) (henc : ∀ x, (enc x).length = sz) (hone : ∀ x, ∀ u ∈ enc x, u.oneCell' = true)
    (v : Value) (xs : List α) (hs : a.eval s = v) (hrow : RowOf e sz enc w v xs) (A : Option Addr) (m c : Nat) (ys : List α) (hm : ys.length = m) (hx : a.eval x = .slice A m c) (hA : A = none → c = 0) (hR : Reps w A sz enc ys)
    (h63 : xs.length + m ≤ maxLen) (hbytes : (xs.length + m) * bytes ≤ 140737488355328)
    (hK : ∀ v' w', RowOf e sz enc w' v' (xs ++ ys) → App w w' v v' → wpList P ops Q rest (a.put o.dst v') w') : wpList P ops Q (o :: rest) a w := by
  obtain ⟨v', w', hrun, r1, r2⟩ := run_append_any (P := P) w t o.type i z bytes ht hi hz hsize hby hzs hsz henc hone v xs hrow A m c ys hm hA hR h63 hbytes
  refine wpList_plain hg fun K hKK => ?_
  unfold Oper.wp
  simp [execOp, hop, resolve, invoke, builtin, hs, hx, hrun, Result.andThen]
  exact hKK _ _ (hK v' w' r1 r2)
end
end Go.Proofs.Ytiphkgkhfomcaaa.Aid
