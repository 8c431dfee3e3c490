/- A map of whatever elements by whole numbers, told by a function on the numbers. Types: the keys' int (3); two maps: int to slices (109), int to int (94). -/
import Derived.Test.YtiphkgkhfomcaaaProg
import Derived.Test.YtiphkgkhfomcaaaAid
import Derived.Maps.OwnSet
import Derived.Maps.Views
import Derived.Maps.Keyed
namespace Go.Proofs.Ytiphkgkhfomcaaa.DMap
open Go.RowKit Go.Proofs.Ytiphkgkhfomcaaa.Aid
/-- How an element reads: as itself. -/
def RV (v : Value) : Option (DataW Value × List MemPlace) := some (.held v, [])
def Fits (i : Int) : Prop := -9223372036854775808 ≤ i ∧ i ≤ 9223372036854775807
theorem wf_of {i : Int} (h : Fits i) : (Lit.int .i64 i).wf = true := by
  have h0 := h.1
  have h1 := h.2
  simp [Lit.wf, IntKind.min, IntKind.max, IntKind.signed, IntKind.bits]
  omega
abbrev key (i : Int) : Lit := .int .i64 i
theorem keyOf_key {i : Int} (h : Fits i) : keyOf Try.prog 3 (.int .i64 i) = some (key i) := Maps.keyOf_int_mk Try.underlying3 (wf_of h)
theorem keyed3 : Maps.Keyed Try.prog 3 := Maps.int_keyed Try.underlying3
/-- Block b is a map; under i lies m i; sz numbers have something. z: the elements' zero. -/
def MapOf (w : World) (b : Nat) (z : Value) (m : Int → Option Value) (sz : Nat) : Prop :=
  ∃ D : DataW Value, w.ownsMap Try.prog 3 RV b sz D ∧ Maps.size D = sz ∧ ∀ i, Fits i → Maps.has D (key i) = (m i).isSome ∧ D.atKey (key i) (.held z) = .held ((m i).getD z)
section
variable {w w' : World} {b sz : Nat} {z : Value} {m : Int → Option Value}
theorem tight {D : DataW Value} {n : Nat} (h : w.ownsMap Try.prog 3 RV b n D) : w.ownsMap Try.prog 3 RV b (Maps.size D) D := by
  obtain ⟨es, clock, hb, F, hs, rfl⟩ := h
  exact ⟨es, clock, hb, F, by simp [Maps.size, length_sorted], rfl⟩
theorem MapOf.made (w : World) (z : Value) : MapOf (w.alloc (.map #[] 0)) w.heap.size z (fun _ => none) 0 :=
  ⟨.map [], World.ownsMap_made w _ _ _, rfl, fun _ _ => ⟨rfl, rfl⟩⟩
theorem MapOf.lt (h : MapOf w b z m sz) : b < w.heap.size := by
  obtain ⟨D, h1, _⟩ := h
  exact h1.lt
theorem MapOf.grown {row : Option Nat} (h : MapOf w b z m sz) (hg : w.grownBy w' row) (hne : some b ≠ row) : MapOf w' b z m sz := by
  obtain ⟨D, h1, h2, h3⟩ := h
  exact ⟨D, h1.kept hg hne, h2, h3⟩
theorem MapOf.below (h : MapOf w b z m sz) (hb : Below w.heap.size w w') : MapOf w' b z m sz := h.grown (grown_below hb none) (by simp)
theorem MapOf.set_ (h : MapOf w b z m sz) {p : Addr} (hp : b ≠ p.block) (u : Value) : MapOf (w.setCell p u) b z m sz := by
  obtain ⟨D, h1, h2, h3⟩ := h
  exact ⟨D, h1.setCell hp u, h2, h3⟩
theorem MapOf.drewN (h : MapOf w b z m sz) (n : Nat) : MapOf (w.drewN n) b z m sz := h
/-- 'v, ok := m[i]'. -/
theorem MapOf.look (h : MapOf w b z m sz) {t e : TypeId} (ht : Try.prog.underlying t = some (.map 3 e)) (hz : (zeroValue e).run Try.prog w = .ok z w) {i : Int} (hi : Fits i) :
    (Instr.lookup t (.map (some b)) (.int .i64 i) true).run Try.prog w = .ok (.tuple #[(m i).getD z, .bool (m i).isSome]) w := by
  obtain ⟨D, h1, h2, h3⟩ := h
  obtain ⟨e1, e2⟩ := h3 i hi
  obtain ⟨v, ps, hrun, hv⟩ := h1.look_ok keyed3 ht hz (zd := .held z) (zp := []) rfl (keyOf_key hi)
  rw [e2] at hv
  simp only [RV, Option.some.injEq, Prod.mk.injEq, DataW.held.injEq] at hv
  rw [hrun, e1, hv.1]
/-- 'len(m)'. -/
theorem MapOf.len (h : MapOf w b z m sz) {t e : TypeId} (ht : Try.prog.underlying t = some (.map 3 e)) (ty : TypeId) : (Builtin.len_ #[t] ty #[.map (some b)]).run Try.prog w = .ok (.int .i64 sz) w := by
  obtain ⟨D, h1, h2, h3⟩ := h
  rw [h1.len ht ty, h2]
def put (m : Int → Option Value) (i : Int) (v : Value) : Int → Option Value := fun j => if j = i then some v else m j
def del (m : Int → Option Value) (i : Int) : Int → Option Value := fun j => if j = i then none else m j
theorem key_inj {i j : Int} (h : j ≠ i) : key j ≠ key i := fun e => h (by injection e)
theorem key_lit (i : Int) : WideAt.IsKeyLit (key i) := by first | exact .int _ _ | exact ⟨_, _, rfl⟩ | trivial | simp [WideAt.IsKeyLit]
/-- 'm[i] = v'. -/
theorem MapOf.store (h : MapOf w b z m sz) {t e : TypeId} (ht : Try.prog.underlying t = some (.map 3 e)) (hn : sz < maxLen) {i : Int} (hi : Fits i) (v : Value) :
    ∃ w', (Instr.mapUpdate t (.map (some b)) (.int .i64 i) v).run Try.prog w = .ok () w' ∧ MapOf w' b z (put m i v) (if (m i).isSome then sz else sz + 1) ∧ w.grownBy w' (some b) ∧ w'.heap.size = w.heap.size := by
  obtain ⟨D, h1, h2, h3⟩ := h
  have htd := h1.tidy keyed3
  obtain ⟨w', hrun, h1', ht'⟩ := h1.store keyed3 ht hn (keyOf_key hi) (val := v) (d := .held v) (ps := []) rfl
  refine ⟨w', hrun, ⟨D.put (key i) (.held v), ?_, ?_, fun j hj => ?_⟩, ht'.grown, ?_⟩
  · have := tight h1'
    rwa [Maps.size_put htd, (h3 i hi).1, h2] at this
  · rw [Maps.size_put htd, (h3 i hi).1, h2]
  · by_cases e : j = i
    · subst e
      rw [Maps.has_put_same htd.isMap (key_lit j), Maps.atKey_put_same htd.isMap (key_lit j)]
      simp [put]
    · rw [Maps.has_put_other (key_inj e), Maps.atKey_put_other (key_inj e)]
      simpa [put, e] using h3 j hj
  · obtain ⟨es, c, es', c', _, rfl⟩ := ht'
    simp [ChangeMaps.setBlock]
/-- 'delete(m, i)'. -/
theorem MapOf.drop (h : MapOf w b z m sz) {t e : TypeId} (ht : Try.prog.underlying t = some (.map 3 e)) {i : Int} (hi : Fits i) (ty : TypeId) :
    ∃ w', (Builtin.delete_ #[t, 3] ty #[.map (some b), .int .i64 i]).run Try.prog w = .ok (.tuple #[]) w' ∧ MapOf w' b z (del m i) (if (m i).isSome then sz - 1 else sz) ∧ w.grownBy w' (some b) ∧ w'.heap.size = w.heap.size := by
  obtain ⟨D, h1, h2, h3⟩ := h
  have htd := h1.tidy keyed3
  obtain ⟨w', hrun, h1', ht'⟩ := h1.drop keyed3 ht (keyOf_key hi) ty
  have hsz := Maps.size_del (k := key i) htd
  rw [(h3 i hi).1, h2] at hsz
  have hs2 : Maps.size (D.del (key i)) = if (m i).isSome then sz - 1 else sz := by
    split at hsz <;> rename_i hc <;> simp only [hc, if_true, Bool.false_eq_true, if_false] <;> omega
  refine ⟨w', hrun, ⟨D.del (key i), ?_, hs2, fun j hj => ?_⟩, ht'.grown, ?_⟩
  · have := tight h1'
    rwa [hs2] at this
  · by_cases e : j = i
    · subst e
      rw [Maps.has_del_same, Maps.atKey_del_same]
      simp [del]
    · rw [Maps.has_del_other (key_inj e), Maps.atKey_del_other (key_inj e)]
      simpa [del, e] using h3 j hj
  · obtain ⟨es, c, es', c', _, rfl⟩ := ht'
    simp [ChangeMaps.setBlock]
end
theorem zero61 (w : World) : (zeroValue 61).run Try.prog w = .ok (.slice none 0 0) w := by kernel_rfl
end Go.Proofs.Ytiphkgkhfomcaaa.DMap
namespace Go.Proofs.Ytiphkgkhfomcaaa.DMap
open Go.RowKit Go.Proofs.Ytiphkgkhfomcaaa.Aid
theorem MapOf.pos {w : World} {b sz : Nat} {z : Value} {m : Int → Option Value} (h : MapOf w b z m sz) {i : Int} (hi : Fits i) (hm : (m i).isSome = true) : 1 ≤ sz := by
  obtain ⟨D, h1, h2, h3⟩ := h
  have hsz := Maps.size_del (k := key i) (h1.tidy keyed3)
  rw [(h3 i hi).1, h2, hm] at hsz
  simp at hsz
  omega
end Go.Proofs.Ytiphkgkhfomcaaa.DMap
