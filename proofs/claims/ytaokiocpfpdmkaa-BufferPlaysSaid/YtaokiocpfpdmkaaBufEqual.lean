/- Chapter 21 (buffer): is a buffer the document's? -/
import Derived.Test.YtaokiocpfpdmkaaBufRef
set_option linter.unusedSimpArgs false
set_option linter.unusedVariables false
attribute [local go_sem ↓] Go.wp_at_zero Go.wp_at_succ
namespace Go.Proofs.Ytaokiocpfpdmkaa.Buff
open Go.BigFrame Go.RowKit Go.OpenShut Go.Proofs.Ytaokiocpfpdmkaa.Aid Go.Proofs.Ytaokiocpfpdmkaa.Spans
open Led (Kept kept_refl kept_set kept_drewN kept_drew kept_below below_kept)
set_option maxRecDepth 100000 in
set_option maxHeartbeats 4000000 in
theorem equal_calls (g rb : Nat) (b : Buf) (una : Int) (most : Nat) (B : List Int) (A : Option Addr) (n c : Nat) (w : World) (h : IsBuf w g rb b) (hh : Holds b una most B) (hn : B.length = n) (hR : Reps w A 1 encB B) :
    Calls Try.prog 44 #[.pointer (some ⟨g, 0, Option.none⟩), dval una most (.slice A n c)] w (Gives w (.bool true)) := by
  have hu := hh.hu
  have hf := hh.hf
  have hm := hh.hm
  have u0 := h.ok.u0
  have u2 := h.ok.u2
  have u3 := h.ok.u3
  have n1 := h.ok.n1
  rw [hn] at hf
  have hnb : n ≤ 65536 := by omega
  have hwin : window b una n = B := by
    rw [window_holds hh h.ok una n (Int.le_refl _) (by omega), show (una - una).toNat = 0 by omega, List.drop_zero, List.take_of_length_le (by omega)]
  obtain ⟨W, hW⟩ : ∃ W, W = w.alloc (.cells #[.int .i64 una, .int .i64 most, .slice A n c] 81) := ⟨_, rfl⟩
  have X : Blk W w.heap.size 81 #[.int .i64 una, .int .i64 most, .slice A n c] := by rw [hW]; exact Blk.new w _ _
  have B0 := Lib.hid (show Below w.heap.size w W by rw [hW]; exact (Below.refl _ w).alloc (Nat.le_refl _) _)
  have Y := Lib.hid (h.below B0.out)
  have K1 := Lib.hid (hwin ▸ read_ok g rb b una (una + n) n W Y.out (by omega) (by omega) (by omega) (by omega))
  have XX := Lib.hid X
  have RB := Lib.hid (hR.below B0.out)
  have HN := Lib.hid hn
  have s1 : IntKind.i64.wrap (una + n) = una + n := IntWalk.i64_in _ (by omega)
  have s2 : IntKind.i64.wrap ((most : Int) - n) = (most : Int) - n := IntWalk.i64_in _ (by omega)
  have C46 := Lib.hid (fun (W2 : World) (h2 : IsBuf W2 g rb b) => hu ▸ una_calls g rb b W2 h2)
  have C42 := Lib.hid (fun (W2 : World) (h2 : IsBuf W2 g rb b) => hf ▸ end_calls g rb b W2 h2)
  have C47 := Lib.hid (fun (W2 : World) (h2 : IsBuf W2 g rb b) => (show (b.ring.length : Int) - (b.fin - b.una) = (most : Int) - n by omega) ▸ room_calls g rb b W2 h2)
  clear h hh hn hR hwin X hu hf hm u3
  unfold dval
  go_enter Try.func44, Try.ntmps44
  go_wp2_with fail
  rw [← hW]
  clear hW
  refine K1.out.mono ?_
  rintro e w1 ⟨v1, rfl, r1, b1, o1⟩
  obtain ⟨A2, c2, rfl, _, hR2⟩ := r1.reps encB_len
  rw [HN.out]
  have X1 := XX.out.below b1 XX.out.lt
  have Y1 := Lib.hid (Y.out.below b1)
  have B1 := Lib.hid (B0.out.trans (b1.mono B0.out.size))
  have R2 := Lib.hid hR2
  have R1 := Lib.hid (RB.out.below b1)
  clear r1 b1 o1 hR2 K1
  have e0 : ∀ d os, (Go.Sort.grow (redrawn w1 d) os).cell? ⟨w.heap.size, 0, Option.none⟩ = some (.int .i64 una) := fun d os => (X1.regrown d os).cell 0
  have e1 : ∀ d os, (Go.Sort.grow (redrawn w1 d) os).cell? ⟨w.heap.size, 1, Option.none⟩ = some (.int .i64 most) := fun d os => (X1.regrown d os).cell 1
  have e2 : ∀ d os, (Go.Sort.grow (redrawn w1 d) os).cell? ⟨w.heap.size, 2, Option.none⟩ = some (.slice A n c) := fun d os => (X1.regrown d os).cell 2
  have L46 := Lib.hid (fun d os => regrown_same (C46.out (Go.Sort.grow (redrawn w1 d) os) (Y1.out.below (below_regrown w1 d os))))
  have L42 := Lib.hid (fun d os => regrown_same (C42.out (Go.Sort.grow (redrawn w1 d) os) (Y1.out.below (below_regrown w1 d os))))
  have L47 := Lib.hid (fun d os => regrown_quiet (C47.out (Go.Sort.grow (redrawn w1 d) os) (Y1.out.below (below_regrown w1 d os))))
  have L41 := Lib.hid (fun d os => Calls.regrown_of (same_n A2 A c2 c n n B (Go.Sort.grow (redrawn w1 d) os) (R2.out.below (below_regrown w1 d os)) (R1.out.below (below_regrown w1 d os)) HN.out HN.out (by omega)))
  clear X1 C46 C42 C47
  go_upto_region 2 with fail
  refine wp_region_quiet_below (by kernel_rfl) (by kernel_rfl) ?_
  repeat (go_big_quiet_step (first | exact L46.out _ _ | exact L42.out _ _ | exact L47.out _ _ | exact L41.out _ _))
  refine wpQuiet_nil ?_
  rintro _ ⟨⟨nq, osq⟩, rfl⟩
  go_wp2
  go_ret
  exact ⟨rfl, B1.out.trans ((below_regrown w1 nq osq).mono B1.out.size)⟩
end Go.Proofs.Ytaokiocpfpdmkaa.Buff
