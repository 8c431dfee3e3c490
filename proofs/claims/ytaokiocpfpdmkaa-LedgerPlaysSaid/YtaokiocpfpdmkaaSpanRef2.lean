/- Chapter 06: the document's Meet, Has, Below, From, Holds, Touch; the code's Holds. -/
import Derived.Test.YtaokiocpfpdmkaaSpanRef
import Derived.Test.YtaokiocpfpdmkaaSpanMath
import Derived.Test.YtaokiocpfpdmkaaSpanAt
namespace Go.Proofs.Ytaokiocpfpdmkaa.Spans
open Go.BigFrame Go.RowKit Go.OpenShut Go.Proofs.Ytaokiocpfpdmkaa.Aid
attribute [local go_sem] max_2 min_2 max2_i min2_i
set_option maxHeartbeats 4000000 in
theorem meet_ref (s t : Span) (w : World) : Calls Try.prog 59 #[.agg #[.int .i64 s.lo, .int .i64 s.hi], .agg #[.int .i64 t.lo, .int .i64 t.hi]] w (Gives w (.agg #[.int .i64 (meet s t).lo, .int .i64 (meet s t).hi])) := by
  have M := Lib.hid (of_ref s)
  have N := Lib.hid (of_ref t)
  have hm : meet s t = plain ⟨max (plain s).lo (plain t).lo, min (plain s).hi (plain t).hi⟩ := rfl
  rw [hm]
  clear hm
  generalize (plain s).lo = a at *
  generalize (plain s).hi = b at *
  generalize (plain t).lo = c at *
  generalize (plain t).hi = d at *
  have O := Lib.hid (of_ref ⟨max a c, min b d⟩)
  generalize plain ⟨max a c, min b d⟩ = q at *
  by_cases h1 : a < c
  · by_cases h2 : d < b
    · have e1 : max a c = c := by omega
      have e2 : min b d = d := by omega
      have O2 := O.out
      simp only [e1, e2] at O2
      have O3 := Lib.hid O2
      clear O O2 e1 e2
      go_enter Try.func59, Try.ntmps59
      go_wp2_with fail
      refine (M.out _).mono ?_
      rintro e w1 ⟨rfl, b1⟩
      obtain ⟨hc1, hf1⟩ := bcell b1
      have z1 := b1.size
      simp at z1
      have z1_0 : w.heap.size < w1.heap.size := by omega
      have z1_1 : w.heap.size + 1 < w1.heap.size := by omega
      have z1_2 : w.heap.size + 1 + 1 < w1.heap.size := by omega
      go_wp2_with fail
      refine (N.out _).mono ?_
      rintro e w2 ⟨rfl, b2⟩
      obtain ⟨hc2, hf2⟩ := bcell b2
      have z2 := b2.size
      simp at z2
      have z2_0 : w.heap.size < w2.heap.size := by omega
      have z2_1 : w.heap.size + 1 < w2.heap.size := by omega
      have z2_2 : w.heap.size + 1 + 1 < w2.heap.size := by omega
      have z2_3 : w1.heap.size < w2.heap.size := by omega
      go_wp2_with fail
      refine (O3.out _).mono ?_
      rintro e w3 ⟨rfl, b3⟩
      obtain ⟨hc3, hf3⟩ := bcell b3
      have z3 := b3.size
      simp at z3
      have z3_0 : w.heap.size < w3.heap.size := by omega
      have z3_1 : w.heap.size + 1 < w3.heap.size := by omega
      have z3_2 : w.heap.size + 1 + 1 < w3.heap.size := by omega
      have z3_3 : w1.heap.size < w3.heap.size := by omega
      have z3_4 : w2.heap.size < w3.heap.size := by omega
      go_wp2
      refine bodyPost_ret (v := .agg #[.int .i64 q.lo, .int .i64 q.hi]) (by simp [results, Try.results59, go_sem, hc1, hc2, hc3, z1_1, z1_2, z2_1, z2_2]) rfl ⟨rfl, ?_⟩
      have B1 : Below w.heap.size w w1 := bn_then (by repeat (first | exact Below.refl _ _ | apply bn_alloc)) b1
      have k1 := B1.size
      have B2 : Below w.heap.size w w2 := bn_then (by repeat (first | exact B1 | apply bn_alloc | (refine bn_set ?_ (by dsimp only; omega) _))) b2
      have B3 : Below w.heap.size w w3 := bn_then (by repeat (first | exact B2 | apply bn_alloc | (refine bn_set ?_ (by dsimp only; omega) _))) b3
      repeat (first | exact B3 | (refine bn_set ?_ (by dsimp only; omega) _))
    · have e1 : max a c = c := by omega
      have e2 : min b d = b := by omega
      have O2 := O.out
      simp only [e1, e2] at O2
      have O3 := Lib.hid O2
      clear O O2 e1 e2
      go_enter Try.func59, Try.ntmps59
      go_wp2_with fail
      refine (M.out _).mono ?_
      rintro e w1 ⟨rfl, b1⟩
      obtain ⟨hc1, hf1⟩ := bcell b1
      have z1 := b1.size
      simp at z1
      have z1_0 : w.heap.size < w1.heap.size := by omega
      have z1_1 : w.heap.size + 1 < w1.heap.size := by omega
      have z1_2 : w.heap.size + 1 + 1 < w1.heap.size := by omega
      go_wp2_with fail
      refine (N.out _).mono ?_
      rintro e w2 ⟨rfl, b2⟩
      obtain ⟨hc2, hf2⟩ := bcell b2
      have z2 := b2.size
      simp at z2
      have z2_0 : w.heap.size < w2.heap.size := by omega
      have z2_1 : w.heap.size + 1 < w2.heap.size := by omega
      have z2_2 : w.heap.size + 1 + 1 < w2.heap.size := by omega
      have z2_3 : w1.heap.size < w2.heap.size := by omega
      go_wp2_with fail
      refine (O3.out _).mono ?_
      rintro e w3 ⟨rfl, b3⟩
      obtain ⟨hc3, hf3⟩ := bcell b3
      have z3 := b3.size
      simp at z3
      have z3_0 : w.heap.size < w3.heap.size := by omega
      have z3_1 : w.heap.size + 1 < w3.heap.size := by omega
      have z3_2 : w.heap.size + 1 + 1 < w3.heap.size := by omega
      have z3_3 : w1.heap.size < w3.heap.size := by omega
      have z3_4 : w2.heap.size < w3.heap.size := by omega
      go_wp2
      refine bodyPost_ret (v := .agg #[.int .i64 q.lo, .int .i64 q.hi]) (by simp [results, Try.results59, go_sem, hc1, hc2, hc3, z1_1, z1_2, z2_1, z2_2]) rfl ⟨rfl, ?_⟩
      have B1 : Below w.heap.size w w1 := bn_then (by repeat (first | exact Below.refl _ _ | apply bn_alloc)) b1
      have k1 := B1.size
      have B2 : Below w.heap.size w w2 := bn_then (by repeat (first | exact B1 | apply bn_alloc | (refine bn_set ?_ (by dsimp only; omega) _))) b2
      have B3 : Below w.heap.size w w3 := bn_then (by repeat (first | exact B2 | apply bn_alloc | (refine bn_set ?_ (by dsimp only; omega) _))) b3
      repeat (first | exact B3 | (refine bn_set ?_ (by dsimp only; omega) _))
  · by_cases h2 : d < b
    · have e1 : max a c = a := by omega
      have e2 : min b d = d := by omega
      have O2 := O.out
      simp only [e1, e2] at O2
      have O3 := Lib.hid O2
      clear O O2 e1 e2
      go_enter Try.func59, Try.ntmps59
      go_wp2_with fail
      refine (M.out _).mono ?_
      rintro e w1 ⟨rfl, b1⟩
      obtain ⟨hc1, hf1⟩ := bcell b1
      have z1 := b1.size
      simp at z1
      have z1_0 : w.heap.size < w1.heap.size := by omega
      have z1_1 : w.heap.size + 1 < w1.heap.size := by omega
      have z1_2 : w.heap.size + 1 + 1 < w1.heap.size := by omega
      go_wp2_with fail
      refine (N.out _).mono ?_
      rintro e w2 ⟨rfl, b2⟩
      obtain ⟨hc2, hf2⟩ := bcell b2
      have z2 := b2.size
      simp at z2
      have z2_0 : w.heap.size < w2.heap.size := by omega
      have z2_1 : w.heap.size + 1 < w2.heap.size := by omega
      have z2_2 : w.heap.size + 1 + 1 < w2.heap.size := by omega
      have z2_3 : w1.heap.size < w2.heap.size := by omega
      go_wp2_with fail
      refine (O3.out _).mono ?_
      rintro e w3 ⟨rfl, b3⟩
      obtain ⟨hc3, hf3⟩ := bcell b3
      have z3 := b3.size
      simp at z3
      have z3_0 : w.heap.size < w3.heap.size := by omega
      have z3_1 : w.heap.size + 1 < w3.heap.size := by omega
      have z3_2 : w.heap.size + 1 + 1 < w3.heap.size := by omega
      have z3_3 : w1.heap.size < w3.heap.size := by omega
      have z3_4 : w2.heap.size < w3.heap.size := by omega
      go_wp2
      refine bodyPost_ret (v := .agg #[.int .i64 q.lo, .int .i64 q.hi]) (by simp [results, Try.results59, go_sem, hc1, hc2, hc3, z1_1, z1_2, z2_1, z2_2]) rfl ⟨rfl, ?_⟩
      have B1 : Below w.heap.size w w1 := bn_then (by repeat (first | exact Below.refl _ _ | apply bn_alloc)) b1
      have k1 := B1.size
      have B2 : Below w.heap.size w w2 := bn_then (by repeat (first | exact B1 | apply bn_alloc | (refine bn_set ?_ (by dsimp only; omega) _))) b2
      have B3 : Below w.heap.size w w3 := bn_then (by repeat (first | exact B2 | apply bn_alloc | (refine bn_set ?_ (by dsimp only; omega) _))) b3
      repeat (first | exact B3 | (refine bn_set ?_ (by dsimp only; omega) _))
    · have e1 : max a c = a := by omega
      have e2 : min b d = b := by omega
      have O2 := O.out
      simp only [e1, e2] at O2
      have O3 := Lib.hid O2
      clear O O2 e1 e2
      go_enter Try.func59, Try.ntmps59
      go_wp2_with fail
      refine (M.out _).mono ?_
      rintro e w1 ⟨rfl, b1⟩
      obtain ⟨hc1, hf1⟩ := bcell b1
      have z1 := b1.size
      simp at z1
      have z1_0 : w.heap.size < w1.heap.size := by omega
      have z1_1 : w.heap.size + 1 < w1.heap.size := by omega
      have z1_2 : w.heap.size + 1 + 1 < w1.heap.size := by omega
      go_wp2_with fail
      refine (N.out _).mono ?_
      rintro e w2 ⟨rfl, b2⟩
      obtain ⟨hc2, hf2⟩ := bcell b2
      have z2 := b2.size
      simp at z2
      have z2_0 : w.heap.size < w2.heap.size := by omega
      have z2_1 : w.heap.size + 1 < w2.heap.size := by omega
      have z2_2 : w.heap.size + 1 + 1 < w2.heap.size := by omega
      have z2_3 : w1.heap.size < w2.heap.size := by omega
      go_wp2_with fail
      refine (O3.out _).mono ?_
      rintro e w3 ⟨rfl, b3⟩
      obtain ⟨hc3, hf3⟩ := bcell b3
      have z3 := b3.size
      simp at z3
      have z3_0 : w.heap.size < w3.heap.size := by omega
      have z3_1 : w.heap.size + 1 < w3.heap.size := by omega
      have z3_2 : w.heap.size + 1 + 1 < w3.heap.size := by omega
      have z3_3 : w1.heap.size < w3.heap.size := by omega
      have z3_4 : w2.heap.size < w3.heap.size := by omega
      go_wp2
      refine bodyPost_ret (v := .agg #[.int .i64 q.lo, .int .i64 q.hi]) (by simp [results, Try.results59, go_sem, hc1, hc2, hc3, z1_1, z1_2, z2_1, z2_2]) rfl ⟨rfl, ?_⟩
      have B1 : Below w.heap.size w w1 := bn_then (by repeat (first | exact Below.refl _ _ | apply bn_alloc)) b1
      have k1 := B1.size
      have B2 : Below w.heap.size w w2 := bn_then (by repeat (first | exact B1 | apply bn_alloc | (refine bn_set ?_ (by dsimp only; omega) _))) b2
      have B3 : Below w.heap.size w w3 := bn_then (by repeat (first | exact B2 | apply bn_alloc | (refine bn_set ?_ (by dsimp only; omega) _))) b3
      repeat (first | exact B3 | (refine bn_set ?_ (by dsimp only; omega) _))
end Go.Proofs.Ytaokiocpfpdmkaa.Spans
