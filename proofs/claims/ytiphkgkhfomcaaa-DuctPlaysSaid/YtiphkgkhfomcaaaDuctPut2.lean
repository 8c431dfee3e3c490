/- Chapter 25 (duct): Put, Double, Fate. -/
import Derived.Test.YtiphkgkhfomcaaaDuctPut
set_option linter.unusedSimpArgs false
set_option linter.unusedVariables false
attribute [local go_sem ↓] Go.wp_at_zero Go.wp_at_succ
namespace Go.Proofs.Ytiphkgkhfomcaaa.Duct
open Go.BigFrame Go.RowKit Go.OpenShut Go.Proofs.Ytiphkgkhfomcaaa.Aid Go.Proofs.Ytiphkgkhfomcaaa.DMap Go.Proofs.Ytiphkgkhfomcaaa.Byt
theorem turn_same {w : World} {g mb : Nat} {fv r : Value} {m : Int → Option Value} {L : Dt} (h : IsDuct w g mb fv m L) : Turn w g mb fv L r (.returned r) w := ⟨rfl, fv, m, h, keeps_refl _ _ _ _, fun k hk => .inl hk⟩
theorem turn_to {w w' : World} {g mb : Nat} {fv r r2 : Value} {L : Dt} {e : Ending} (h : Turn w g mb fv L r e w') : Turn w g mb fv L r2 (.returned r2) w' := ⟨rfl, h.2⟩
def bad (L : Dt) (now : Int) : Prop := now < L.last ∨ 4611686018427387904 < now
instance (L : Dt) (now : Int) : Decidable (bad L now) := by unfold bad; infer_instance
def putR (L : Dt) (xs : List Int) (now : Int) : Int × Int × Dt :=
  if bad L now then (0, 3, L) else if 2096 < xs.length then (0, 9, L) else if 4096 ≤ L.n then (0, 4, L) else (L.fates.length, 0, putD L xs (-1) now now)
set_option maxRecDepth 100000 in
set_option maxHeartbeats 4000000 in
theorem put1_calls (g mb : Nat) (fv : Value) (m : Int → Option Value) (L : Dt) (rv : Value) (xs : List Int) (now : Int) (w : World) (h : IsDuct w g mb fv m L) (hs : Byt.Src w rv xs) (hl : L.fates.length < 1000000) (hfar : xs ≠ [] → ∀ k, rv.ownBlock = some k → k ≠ g ∧ fv.ownBlock ≠ some k) (hmb : xs ≠ [] → ∀ k, rv.ownBlock = some k → k < w.heap.size → k ≠ mb) (hx : xs.length ≤ 9223372036854775807) :
    Calls Try.prog 27 #[.pointer (some ⟨g, 0, Option.none⟩), rv, .int .i64 now] w (Turn w g mb fv (putR L xs now).2.2 (.tuple #[.int .i64 (putR L xs now).1, .int .i64 (putR L xs now).2.1])) := by
  have H := Lib.hid h
  obtain ⟨A, c, rfl, _, _⟩ := hs.is
  have c2 := h.box.cell 2
  simp at c2
  have hln := fun ty => h.map.len Try.underlying109 ty
  have hn := h.cnt
  unfold putR
  by_cases hb : bad L now
  · rw [if_pos hb]
    have K := Lib.hid (ask_bad g mb fv m L now w h hb)
    clear h hs hb hfar hmb hln hn c2
    go_enter Try.func27, Try.ntmps27
    go_wp2_with fail
    refine K.out.mono ?_
    rintro e w1 ⟨rfl, rfl⟩
    go_wp2
    go_ret2
    exact turn_same H.out
  · rw [if_neg hb]
    have K := Lib.hid (ask_ok g mb fv m L now w h (by unfold bad at hb; omega) (by unfold bad at hb; omega))
    by_cases h1 : 2096 < xs.length
    · rw [if_pos h1]
      have h1' : (2096 : Int) < (xs.length : Int) := by omega
      clear h hs hb hfar hmb hln hn c2
      go_enter Try.func27, Try.ntmps27
      go_wp2_with fail
      refine K.out.mono ?_
      rintro e w1 ⟨rfl, rfl⟩
      go_wp2
      go_ret2
      exact turn_same H.out
    · rw [if_neg h1]
      have h1' : (xs.length : Int) ≤ 2096 := by omega
      by_cases h2 : 4096 ≤ L.n
      · rw [if_pos h2]
        have h2' : (4096 : Int) ≤ (L.n : Int) := by omega
        clear h hs hb hfar hmb
        go_enter Try.func27, Try.ntmps27
        go_wp2_with fail
        refine K.out.mono ?_
        rintro e w1 ⟨rfl, rfl⟩
        go_wp2
        go_ret2
        exact turn_same H.out
      · rw [if_neg h2]
        have h2' : (L.n : Int) < 4096 := by omega
        have P := Lib.hid (put_calls g mb fv m L (.slice A xs.length c) xs (-1) now now w h hs (by omega) hl (by unfold bad at hb; omega) (by unfold bad at hb; omega) hfar hmb)
        clear h hs hb hfar hmb
        go_enter Try.func27, Try.ntmps27
        go_wp2_with fail
        refine K.out.mono ?_
        rintro e w1 ⟨rfl, rfl⟩
        go_wp2_with fail
        refine P.out.mono ?_
        rintro e w2 ⟨rfl, hT⟩
        have HT := Lib.hid hT
        clear hT
        go_wp2
        go_ret2
        exact ⟨rfl, HT.out⟩
end Go.Proofs.Ytiphkgkhfomcaaa.Duct
