/- Chapter 25 (duct): slices.Clone over fates (58), maps.Clone (59), Clone (37). -/
import Derived.Test.YtiphkgkhfomcaaaDuctDouble
import Derived.Shelf.SlMaps.Clone
import Derived.Deep.RegionHeld3
import Derived.Deep.DrawnRows
set_option linter.unusedSimpArgs false
set_option linter.unusedVariables false
attribute [local go_sem ↓] Go.wp_at_zero Go.wp_at_succ
namespace Go.Proofs.Ytiphkgkhfomcaaa.DuctLay
open Go.Shelf
def cloneM_ren : Go.Shelf.Ren := ⟨fun | 5 => 59 | 7 => 68 | n => n, fun | 4 => 4 | 20 => 20 | 23 => 109 | 25 => 3 | 3 => 61 | n => n, fun | n => n⟩
theorem cloneM : Go.Proofs.SlLaysW.n5 Try.prog cloneM_ren := {
  mixed := by kernel_rfl
  f5 := ⟨Try.f59.name, by decide, Try.func59.trans (congrArg some (by kernel_rfl))⟩
  f7 := Try.func68.trans (congrArg some (by kernel_rfl))
  t4 := Try.underlying4
  a4 := Try.isAgg4
  z4 := Try.sizeOf4
  v4 := Try.zeroValue4
  t20 := Try.underlying20
  a20 := Try.isAgg20
  z20 := Try.sizeOf20
  v20 := Try.zeroValue20
  t23 := Try.underlying109
  a23 := Try.isAgg109
  z23 := Try.sizeOf109
  v23 := Try.zeroValue109 }
end Go.Proofs.Ytiphkgkhfomcaaa.DuctLay
namespace Go.Proofs.Ytiphkgkhfomcaaa.Duct
open Go.BigFrame Go.RowKit Go.OpenShut Go.Proofs.Ytiphkgkhfomcaaa.Aid Go.Proofs.Ytiphkgkhfomcaaa.DMap Go.Proofs.Ytiphkgkhfomcaaa.Byt
theorem eql_nil110 (a : Option Addr) (l c : Nat) (w : World) : (binOp .eql 110 (.slice a l c) (.slice Option.none 0 0)).run Try.prog w = .ok (.bool a.isNone) w := by
  simp only [binOp]
  simp [run_equal_slice_nil w 110 65 a l c Try.underlying110]
attribute [local go_sem high] eql_nil110
theorem row_new65 (w : World) : RowOf 65 4 encF (w.alloc (.cells #[] 65)) (.slice (some ⟨w.heap.size, 0, Option.none⟩) 0 0) ([] : List Fate) :=
  .inr ⟨w.heap.size, 0, #[], rfl, Nat.le_refl _, by omega, heap_alloc_new w _, by simp, rfl⟩
def FreshF (w : World) (l : List Fate) (e : Ending) (w' : World) : Prop := ∃ v, e = .returned v ∧ RowOf 65 4 encF w' v l ∧ Below w.heap.size w w' ∧ ∀ k, v.ownBlock = some k → w.heap.size ≤ k
set_option maxRecDepth 100000 in
set_option maxHeartbeats 4000000 in
theorem fclone_calls (v : Value) (l : List Fate) (w : World) (h : RowOf 65 4 encF w v l) (hl : l.length ≤ 1000000) : Calls Try.prog 58 #[v] w (FreshF w l) := by
  obtain ⟨A, cap, h1, h2, hR⟩ := h.reps encF_len
  have hA : A = Option.none → cap = 0 ∧ l = [] := fun hA => by
    obtain ⟨h0, hx⟩ | ⟨b, cap, cur, h0, _⟩ := h
    · rw [h1] at h0
      injection h0 with _ _ h5
      exact ⟨h5, hx⟩
    · rw [h1, hA] at h0
      injection h0 with h4
      cases h4
  subst h1
  clear h h2
  cases A with
  | none =>
    obtain ⟨rfl, rfl⟩ := hA rfl
    clear hR hA
    go_enter Try.func58, Try.ntmps58
    go_wp2
    go_ret
    exact ⟨_, rfl, .inl ⟨rfl, rfl⟩, Below.refl _ _, fun k hk => by simp [Value.ownBlock] at hk⟩
  | some ad =>
    obtain ⟨i0, hi, hz0, hz1, hz2⟩ := info_parts info65
    have R := Lib.hid hR
    obtain ⟨N, hN⟩ : ∃ N, l.length = N := ⟨_, rfl⟩
    have HN := Lib.hid hN
    rw [hN] at hl ⊢
    clear hA hR hN
    go_enter Try.func58, Try.ntmps58
    go_wp2_with (at_builtin; refine wpList_append_any (by rfl) _ _ 110 (by rfl) i0 _ 32 Try.underlying110 hi hz0 hz1 hz2 (by decide) (by decide) encF_len encF_one (.slice (some ⟨w.heap.size, 0, Option.none⟩) 0 0) ([] : List Fate) (by rfl) (row_new65 w) _ N cap l HN.out (by rfl) (fun h => by cases h) (R.out.below ((Below.refl _ w).alloc (Nat.le_refl _) _)) ?k2 ?k3 ?k4)
    case k2 => simp only [List.length_nil]; unfold maxLen; omega
    case k3 => simp only [List.length_nil]; omega
    case k4 =>
      intro v2 w2 hr ha
      have HR := Lib.hid hr
      have HA := Lib.hid ha
      clear hr ha
      go_wp2
      go_ret
      refine ⟨v2, rfl, HR.out, below_app ((Below.refl _ w).alloc (Nat.le_refl _) _) HA.out (fun k hk => by
        have : w.heap.size = k := by simpa [Value.ownBlock] using hk
        omega), fun k hk => ?_⟩
      rcases HA.out.own k hk with h1 | h1
      · have : w.heap.size = k := by simpa [Value.ownBlock] using h1
        omega
      · simp at h1
        omega
/-- maps.Clone: a new map with the very entries. -/
theorem mclone_calls {w : World} {b sz : Nat} {z : Value} {m : Int → Option Value} (h : MapOf w b z m sz) : Calls Try.prog 59 #[.map (some b)] w fun e w' => ∃ b', e = .returned (.map (some b')) ∧ MapOf w' b' z m sz ∧ Below w.heap.size w w' ∧ w.heap.size ≤ b' := by
  obtain ⟨D, h1, h2, h3⟩ := h
  exact (AnyW.maps_Clone_owns DuctLay.cloneM 3 RV b sz D w h1).mono fun e w' ⟨he, ha, _, hb⟩ => ⟨_, he, ⟨D, ha, h2, h3⟩, hb, Nat.le_refl _⟩
/-- What comes of a clone. -/
def Cloned (w : World) (m : Int → Option Value) (L : Dt) (e : Ending) (w' : World) : Prop := ∃ g mb fv, e = .returned (.pointer (some ⟨g, 0, Option.none⟩)) ∧ IsDuct w' g mb fv m L ∧ Below w.heap.size w w' ∧ w.heap.size ≤ g ∧ w.heap.size ≤ mb ∧ ∀ k, fv.ownBlock = some k → w.heap.size ≤ k
theorem row_not_map {w : World} {fv : Value} {fs : List Fate} {b sz : Nat} {z : Value} {m : Int → Option Value} (h : RowOf 65 4 encF w fv fs) (hm : MapOf w b z m sz) : fv.ownBlock ≠ some b := fun e => by
  obtain ⟨D, ⟨es, cl, e1, _⟩, _⟩ := hm
  obtain ⟨h0, _⟩ | ⟨b', cap, cur, h0, _, _, h3, _⟩ := h
  · rw [h0] at e
    simp [Value.ownBlock] at e
  · rw [h0] at e
    obtain rfl : b' = b := by simpa [Value.ownBlock] using e
    rw [h3] at e1
    simp at e1
theorem clone_end {w w3 : World} {g mb mb' : Nat} {fv fv' : Value} {m : Int → Option Value} {L : Dt} (h : IsDuct w g mb fv m L) (hb : Below w.heap.size w w3) (hr : RowOf 65 4 encF w3 fv' L.fates) (hm : MapOf w3 mb' nilS m L.n) (hf : ∀ k, fv'.ownBlock = some k → w.heap.size ≤ k) (h1 : w.heap.size ≤ mb') :
    Cloned w m L (.returned (.pointer (some ⟨w3.heap.size, 0, Option.none⟩))) (w3.alloc (.cells #[.int .i64 L.last, fv', .map (some mb')] 112)) := by
  have b4 : Below w3.heap.size w3 (w3.alloc (.cells #[.int .i64 L.last, fv', .map (some mb')] 112)) := (Below.refl _ _).alloc (Nat.le_refl _) _
  have hs := hb.size
  have hml := hm.lt
  have bw := below_then hb hs b4
  refine ⟨w3.heap.size, mb', fv', rfl, ⟨Blk.new w3 112 _, hr.below b4, hm.below b4, fun i => (h.raw i).imp id (fun ⟨v, xs, a, b, c, d, e⟩ => ⟨v, xs, a, b, c.below bw, d, fun k hk => ?_⟩), h.ids, by omega, fun e => by have := hr.lt _ e; omega, row_not_map hr hm, h.len, h.cnt, h.l0, h.l1⟩, bw, hs, h1, hf⟩
  have hlt := c.lt k hk
  exact ⟨by omega, by omega, fun e => by have := hf k e; omega⟩
theorem cloned_drew {w w' : World} {m : Int → Option Value} {L : Dt} {e : Ending} (h : Cloned w m L e w') : Cloned w m L e w'.drew := by
  obtain ⟨g, mb, fv, h1, h2, h3, h4⟩ := h
  exact ⟨g, mb, fv, h1, h2.below (Below.refl _ _).drew, below_drew h3, h4⟩
set_option maxRecDepth 100000 in
set_option maxHeartbeats 4000000 in
theorem clone_calls (g mb : Nat) (fv : Value) (m : Int → Option Value) (L : Dt) (w : World) (h : IsDuct w g mb fv m L) : Calls Try.prog 37 #[.pointer (some ⟨g, 0, Option.none⟩)] w (Cloned w m L) := by
  have H := Lib.hid h
  obtain ⟨Af, nf, cf, rfl⟩ := h.row.some_slice
  have c0 := h.box.cell 0
  have c1 := h.box.cell 1
  have c2 := h.box.cell 2
  simp at c0 c1 c2
  have KF := Lib.hid (fun (W : World) (hb : Below w.heap.size w W) => fclone_calls (.slice Af nf cf) L.fates W (H.out.row.below hb) H.out.len)
  have KM := Lib.hid (fun (W : World) (hb : Below w.heap.size w W) => mclone_calls (H.out.map.below hb))
  have E := Lib.hid (fun (w3 : World) (mb' : Nat) (fv' : Value) (hb : Below w.heap.size w w3) => clone_end (w3 := w3) (mb' := mb') (fv' := fv') H.out hb)
  have AFT := Lib.hid (fun (W : World) (hb : Below w.heap.size w W) => show W.cell? ⟨g, 0, Option.none⟩ = some (.int .i64 L.last) ∧ W.cell? ⟨g, 1, Option.none⟩ = some (.slice Af nf cf) ∧ W.cell? ⟨g, 2, Option.none⟩ = some (.map (some mb)) from by
    have x := H.out.box.below hb H.out.box.lt
    have x0 := x.cell 0
    have x1 := x.cell 1
    have x2 := x.cell 2
    simp at x0 x1 x2
    exact ⟨x0, x1, x2⟩)
  clear h
  go_enter Try.func37, Try.ntmps37
  go_upto_region 3 with fail
  have HB0 := Lib.hid (below_drew (Below.refl w.heap.size w))
  go_region_held3 (fun W => W.cell? ⟨g, 0, Option.none⟩ = some (.int .i64 L.last) ∧ W.cell? ⟨g, 1, Option.none⟩ = some (.slice Af nf cf) ∧ W.cell? ⟨g, 2, Option.none⟩ = some (.map (some mb))) (go_keep) (first
    | (go_at_call 58; refine (KF.out _ (by first | exact HB1.out | exact HB0.out)).mono ?_; rintro e w1 ⟨v1, rfl, r1, b1, o1⟩; obtain ⟨A1, n1, d1, rfl⟩ := r1.some_slice; have RF := Lib.hid (And.intro r1 (fun k hk => Nat.le_trans (by first | exact HB1.out.size | exact HB0.out.size) (o1 k hk))); (try (have RM := Lib.hid (And.intro (RM.out.1.below b1) RM.out.2))); have HB1 := Lib.hid (below_then (by first | exact HB1.out | exact HB0.out) (by first | exact HB1.out.size | exact HB0.out.size) b1); obtain ⟨u0, u1, u2⟩ := AFT.out _ HB1.out; clear r1 o1 b1)
    | (go_at_call 59; refine (KM.out _ (by first | exact HB1.out | exact HB0.out)).mono ?_; rintro e w1 ⟨mb1, rfl, r1, b1, o1⟩; have RM := Lib.hid (And.intro r1 (Nat.le_trans (by first | exact HB1.out.size | exact HB0.out.size) o1)); (try (have RF := Lib.hid (And.intro (RF.out.1.below b1) RF.out.2))); have HB1 := Lib.hid (below_then (by first | exact HB1.out | exact HB0.out) (by first | exact HB1.out.size | exact HB0.out.size) b1); obtain ⟨u0, u1, u2⟩ := AFT.out _ HB1.out; clear r1 o1 b1))
  all_goals
    go_wp2
    go_ret
    exact E.out w1 mb1 _ HB1.out RF.out.1 RM.out.1 RF.out.2 RM.out.2
end Go.Proofs.Ytiphkgkhfomcaaa.Duct
