/- Chapter 25 (duct): Double, Fate. -/
import Derived.Test.YtiphkgkhfomcaaaDuctPut2
import Derived.StillTailTactics
set_option linter.unusedSimpArgs false
set_option linter.unusedVariables false
attribute [local go_sem ↓] Go.wp_at_zero Go.wp_at_succ
namespace Go.Proofs.Ytiphkgkhfomcaaa.Duct
open Go.BigFrame Go.RowKit Go.OpenShut Go.Proofs.Ytiphkgkhfomcaaa.Aid Go.Proofs.Ytiphkgkhfomcaaa.DMap Go.Proofs.Ytiphkgkhfomcaaa.Byt
def doubleR (L : Dt) (id now : Int) : Int × Int × Dt :=
  if bad L now then (0, 3, L) else match L.raws id with
    | Option.none => (0, 10, L)
    | some xs => if 4096 ≤ L.n then (0, 4, L) else (L.fates.length, 0, putD L xs (L.fates.getD id.toNat default).of_ (L.fates.getD id.toNat default).at_ now)
/-- A fate, as it lies in memory. -/
theorem fate_cells {w : World} {fv : Value} {fs : List Fate} (h : RowOf 65 4 encF w fv fs) (k : Nat) (hk : k < fs.length) : ∃ ad cap, fv = .slice (some ad) fs.length cap ∧ fs.length ≤ cap ∧ ad.block < w.heap.size ∧ w.cell? (ad.add (k * 4)) = some (.int .i64 (fs.getD k default).of_) ∧ w.cell? ⟨(ad.add (k * 4)).block, (ad.add (k * 4)).off + 1, Option.none⟩ = some (.int .i64 (fs.getD k default).at_) ∧
    w.cell? ⟨(ad.add (k * 4)).block, (ad.add (k * 4)).off + 2, Option.none⟩ = some (.int .i64 (fs.getD k default).en) ∧ w.cell? ⟨(ad.add (k * 4)).block, (ad.add (k * 4)).off + 3, Option.none⟩ = some (.int .i64 (fs.getD k default).kind) := by
  obtain ⟨A, c, h1, h2, h3⟩ := h.reps encF_len
  obtain ⟨f, hf⟩ : ∃ f, fs[k]? = some f := ⟨_, List.getElem?_eq_getElem hk⟩
  obtain ⟨ad, rfl, hl, hc⟩ := h3 k f hf
  have e : fs.getD k default = f := by rw [List.getD_eq_getElem?_getD, hf]; rfl
  rw [e]
  exact ⟨ad, c, h1, h2, hl, hc 0 _ rfl, (add_next ad (k * 4) 1 (by omega)) ▸ hc 1 _ rfl, (add_next ad (k * 4) 2 (by omega)) ▸ hc 2 _ rfl, (add_next ad (k * 4) 3 (by omega)) ▸ hc 3 _ rfl⟩
set_option maxRecDepth 100000 in
set_option maxHeartbeats 4000000 in
theorem double_calls (g mb : Nat) (fv : Value) (m : Int → Option Value) (L : Dt) (id now : Int) (w : World) (h : IsDuct w g mb fv m L) (hi : Fits id) (hl : L.fates.length < 1000000) :
    Calls Try.prog 34 #[.pointer (some ⟨g, 0, Option.none⟩), .int .i64 id, .int .i64 now] w (Turn w g mb fv (doubleR L id now).2.2 (.tuple #[.int .i64 (doubleR L id now).1, .int .i64 (doubleR L id now).2.1])) := by
  have H := Lib.hid h
  have c2 := h.box.cell 2
  simp at c2
  have hln := fun ty => h.map.len Try.underlying109 ty
  have hlk := h.map.look Try.underlying109 (zero61 w) hi
  unfold doubleR
  by_cases hb : bad L now
  · rw [if_pos hb]
    have K := Lib.hid (ask_bad g mb fv m L now w h hb)
    clear h hb hln hlk c2 hi
    go_enter Try.func34, Try.ntmps34
    go_wp2_with fail
    refine K.out.mono ?_
    rintro e w1 ⟨rfl, rfl⟩
    go_wp2
    go_ret2
    exact turn_same H.out
  · rw [if_neg hb]
    have K := Lib.hid (ask_ok g mb fv m L now w h (by unfold bad at hb; omega) (by unfold bad at hb; omega))
    rcases h.raw id with ⟨hm, hr⟩ | ⟨v, xs, hm, hr, hrow, hx, ho⟩
    · rw [hr]
      rw [hm] at hlk
      simp only [Option.isSome_none, Option.getD_none] at hlk
      clear h hb hln hi hm hr
      go_enter Try.func34, Try.ntmps34
      go_wp2_with fail
      refine K.out.mono ?_
      rintro e w1 ⟨rfl, rfl⟩
      go_wp2
      go_ret2
      exact turn_same H.out
    · rw [hr]
      rw [hm] at hlk
      simp only [Option.isSome_some, Option.getD_some] at hlk
      simp only
      by_cases h2 : 4096 ≤ L.n
      · rw [if_pos h2]
        have h2' : (4096 : Int) ≤ (L.n : Int) := by omega
        clear h hb hi hm hr hrow ho
        go_enter Try.func34, Try.ntmps34
        go_wp2_with fail
        refine K.out.mono ?_
        rintro e w1 ⟨rfl, rfl⟩
        go_wp2
        go_ret2
        exact turn_same H.out
      · rw [if_neg h2]
        have h2' : (L.n : Int) < 4096 := by omega
        obtain ⟨k0, k1⟩ := h.ids id xs hr
        obtain ⟨k, rfl⟩ : ∃ k : Nat, id = k := ⟨id.toNat, by omega⟩
        have hk : k < L.fates.length := by omega
        obtain ⟨ad, c, rfl, hcap, had, f0, f1, _, _⟩ := fate_cells h.row k hk
        have c1 := h.box.cell 1
        simp at c1
        have P := Lib.hid (fun (W : World) (hW : Below w.heap.size w W) => put_calls g mb _ m L v xs (L.fates.getD k default).of_ (L.fates.getD k default).at_ now W (h.below hW) ((src_row hrow).below hW) hx hl (by unfold bad at hb; omega) (by unfold bad at hb; omega) (fun _ k hk => ⟨(ho k hk).1, (ho k hk).2.2⟩) (fun _ k hk _ => (ho k hk).2.1))
        rw [show ((k : Int)).toNat = k from rfl]
        generalize L.fates.getD k default = f at *
        obtain ⟨vA, vn, vc, rfl⟩ := hrow.some_slice
        have q0 : (0 : Int) ≤ (k : Int) := by omega
        have q1 : (k : Int) < (L.fates.length : Int) := by omega
        have hne : ¬ g = ad.block := fun e => h.fg (by rw [e]; rfl)
        clear h hb hi hm hr hrow ho
        go_enter Try.func34, Try.ntmps34
        go_wp2_with fail
        refine K.out.mono ?_
        rintro e w1 ⟨rfl, rfl⟩
        go_upto_region 9 with fail
        go_still_tail 19, (by kernel_rfl)
        change wpList _ _ _ _ _ w.drew
        go_wp2_with fail
        refine (P.out _ (Below.refl _ w).drew).mono ?_
        rintro e w2 ⟨rfl, hT⟩
        have HT := Lib.hid hT
        clear hT
        go_wp2
        go_ret2
        obtain ⟨fv', m', t1, t2, t3⟩ := HT.out
        exact ⟨rfl, fv', m', t1, below_keeps (Below.refl _ w).drew t2, t3⟩
end Go.Proofs.Ytiphkgkhfomcaaa.Duct
