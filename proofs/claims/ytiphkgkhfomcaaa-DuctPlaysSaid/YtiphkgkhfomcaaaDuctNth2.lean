/- Chapter 25 (duct): Nth of a duct that lies (38): out of its bounds. -/
import Derived.Test.YtiphkgkhfomcaaaDuctFly2
import Derived.BigQuiet
set_option linter.unusedSimpArgs false
set_option linter.unusedVariables false
attribute [local go_sem ↓] Go.wp_at_zero Go.wp_at_succ
namespace Go.Proofs.Ytiphkgkhfomcaaa.Duct
open Go.BigFrame Go.RowKit Go.OpenShut Go.Proofs.Ytiphkgkhfomcaaa.Aid Go.Proofs.Ytiphkgkhfomcaaa.DMap Go.Proofs.Ytiphkgkhfomcaaa.Byt
abbrev noC : Value := .agg #[.int .i64 0, .int .i64 0, .int .i64 0, nilS]
set_option maxRecDepth 100000 in
set_option maxHeartbeats 4000000 in
theorem nth_out (g mb : Nat) (fv : Value) (m : Int → Option Value) (L : Dt) (i : Int) (w : World) (h : IsDuct w g mb fv m L) (hi : i < 0 ∨ L.n ≤ i) : Calls Try.prog 38 #[.pointer (some ⟨g, 0, Option.none⟩), .int .i64 i] w (Gives w (.tuple #[noC, .bool false])) := by
  have H := Lib.hid h
  by_cases h1 : i < 0
  · clear h hi
    go_enter Try.func38, Try.ntmps38
    go_upto_region 1 with fail
    refine wp_region_quiet_lit (by kernel_rfl) (by kernel_rfl) ?_
    repeat (go_big_quiet_step (fail))
    refine wpQuiet_nil ?_
    rintro _ ⟨nq, rfl⟩
    go_wp2
    refine bodyPost_ret (v := .tuple #[noC, .bool false]) (by simp [results, Try.results38, go_sem, nilS]; done) rfl ⟨rfl, ?_⟩
    have hB := below_drewN' ((((Below.refl _ w).alloc (Nat.le_refl _) (.cells #[.int .i64 i] 3)).alloc (by simp only [World.size_alloc]; omega) (.cells #[.int .i64 0, .int .i64 0, .int .i64 0, .slice Option.none 0 0] 82)).alloc (by simp only [World.size_alloc]; omega) (.cells #[.bool false] 4)) nq
    exact ((((hB.setCell (by simp) _).setCell (by simp) _).setCell (by simp) _).setCell (by simp) _).setCell (by simp only; omega) _
  · have h2 : (L.n : Int) ≤ i := by omega
    have h3 : ¬ i < 0 := by omega
    have K := Lib.hid (fun (W : World) (hW : Below w.heap.size w W) => len_calls g mb fv m L W (H.out.below hW))
    clear h hi
    go_enter Try.func38, Try.ntmps38
    go_upto_region 1 with fail
    refine wp_region_quiet_lit (by kernel_rfl) (by kernel_rfl) ?_
    repeat (go_big_quiet_step (exact (K.out _ (by first | exact below_drewN' ((((Below.refl _ w).alloc (Nat.le_refl _) _).alloc (by simp only [World.size_alloc]; omega) _).alloc (by simp only [World.size_alloc]; omega) _) _ | exact ((((Below.refl _ w).alloc (Nat.le_refl _) _).alloc (by simp only [World.size_alloc]; omega) _).alloc (by simp only [World.size_alloc]; omega) _).drew)).mono fun e w' ⟨a, b⟩ => ⟨a, _, b.symm⟩))
    refine wpQuiet_nil ?_
    rintro _ ⟨nq, rfl⟩
    go_wp2
    refine bodyPost_ret (v := .tuple #[noC, .bool false]) (by simp [results, Try.results38, go_sem, nilS]; done) rfl ⟨rfl, ?_⟩
    have hB := below_drewN' ((((Below.refl _ w).alloc (Nat.le_refl _) (.cells #[.int .i64 i] 3)).alloc (by simp only [World.size_alloc]; omega) (.cells #[.int .i64 0, .int .i64 0, .int .i64 0, .slice Option.none 0 0] 82)).alloc (by simp only [World.size_alloc]; omega) (.cells #[.bool false] 4)) nq
    exact ((((hB.setCell (by simp) _).setCell (by simp) _).setCell (by simp) _).setCell (by simp) _).setCell (by simp only; omega) _
end Go.Proofs.Ytiphkgkhfomcaaa.Duct
