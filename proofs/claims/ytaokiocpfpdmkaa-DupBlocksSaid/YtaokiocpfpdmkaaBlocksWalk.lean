/- DupBlocks: the blocks of any spans are as the document says. -/
import Derived.Test.YtaokiocpfpdmkaaBlocks2
import Derived.BigQuiet
set_option linter.unusedSimpArgs false
set_option linter.unusedVariables false
attribute [local go_sem ↓] Go.wp_at_zero Go.wp_at_succ
namespace Go.Proofs.Ytaokiocpfpdmkaa.Dups
open Go.BigFrame Go.RowKit Go.OpenShut Go.Proofs.Ytaokiocpfpdmkaa.Aid Go.Proofs.Ytaokiocpfpdmkaa.Spans
open Led (encS encS_len encS_one info26 row_alloc row_drew src_one)
theorem eq_blocks (d : Nat) (w : World) (x0 y0 x1 y1 : Int) :
    (Op.equalIn (d + 2) 43 (.agg #[.int .u32 x0, .int .u32 x1]) (.agg #[.int .u32 y0, .int .u32 y1])).run Try.prog w = .ok (x0 == y0 && (x1 == y1)) w := by
  rw [fields_of Try.underlying43 (by kernel_rfl)]
  have h3 := Try.underlying22
  simp [Op.eqFields, run_equalIn_int, h3, go_sem]
  by_cases h : x0 = y0
  · by_cases g : x1 = y1 <;> simp [h, g]
  · simp [h]
attribute [local go_sem high] eq_blocks
theorem repsK {w : World} {A : Option Addr} {n c : Nat} {xs : List Block} (h : RowOf 43 2 encK w (.slice A n c) xs) : Reps w A 2 encK xs := by
  obtain ⟨A', cap, e, _, hR⟩ := h.reps encK_len
  injection e with e1 e2 e3
  subst e1
  exact hR
set_option maxRecDepth 100000 in
set_option maxHeartbeats 4000000 in
theorem blocks_walk (first : Int) (d : Span) (l : List Span) (A : Option Addr) (c : Nat) (w : World) (f0 : 0 ≤ first) (f1 : first < 4294967296) (hn : l.length * 16 ≤ 140737488351232) (hA : A = Option.none → c = 0) (hr : Reps w A 2 encS l) :
    Calls Try.prog 5 #[.int .u32 first, .agg #[.int .i64 d.lo, .int .i64 d.hi], .slice A l.length c] w (Yes w) := by
  have R := Lib.hid hr
  have K1 := Lib.hid (fun W h => blocks_calls first d l A c W f0 f1 (by unfold maxLen; omega) h)
  have K2 := Lib.hid (fun W h => rblocks_calls first d l A c W f0 f1 hn hA h)
  have hb4 : (blocksOf first (d :: l)).length ≤ 4 := blocks_len first (d :: l) [] (by simp)
  generalize blocksOf first (d :: l) = xs at *
  clear hr
  have D0 := Lib.hid (at2_new (W := w) (s := d) rfl)
  go_enter Try.func5, Try.ntmps5
  go_wp2_with fail
  refine (known_calls _).mono ?_
  rintro e w1 ⟨rfl, b1⟩
  have D1 := Lib.hid (at2_call D0.out b1)
  have B1 := Lib.hid (below1 b1)
  obtain ⟨d0, d1⟩ := D1.out
  clear b1
  go_wp2_with fail
  refine (K1.out _ (R.out.below B1.out)).mono ?_
  rintro e w2 ⟨A1, n1, c1, rfl, r1, rfl, m1, _, b2⟩
  have B2 := Lib.hid (bn_then B1.out b2)
  obtain ⟨d0, d1⟩ := at2_call D1.out b2
  have R1 := Lib.hid (repsK r1)
  clear r1 b2
  go_wp2_with fail
  refine (K2.out _ (R.out.below B2.out)).mono ?_
  rintro e w3 ⟨A2, n2, c2, rfl, r2, rfl, m2, _, b3⟩
  have B3 := Lib.hid (bn_then B2.out b3)
  have R2 := Lib.hid (repsK r2)
  have R3 := Lib.hid (R1.out.below b3)
  clear r2 b3 d0 d1
  go_wp2
  go_loopw [9] (fun i wr => ∃ k : Nat, k ≤ xs.length ∧ i = .int .i64 k ∧ Hid (∃ n, wr = w3.drewN n)) (fun i _ => xs.length - (intOf i).toNat)
  case atStart => exact ⟨0, by omega, rfl, Lib.hid ⟨0, rfl⟩⟩
  case round =>
    obtain ⟨k, hk, rfl, hW⟩ := hrel
    obtain ⟨n, rfl⟩ := hW.out
    clear hW
    by_cases hlt : k < xs.length
    · obtain ⟨x, hx⟩ : ∃ x, xs[k]? = some x := ⟨_, List.getElem?_eq_getElem hlt⟩
      obtain ⟨a, rfl, _, hc⟩ := R3.out k x hx
      obtain ⟨b, rfl, _, hd⟩ := R2.out k x hx
      have c0 : (w3.drewN n).cell? (a.add (k * 2)) = some (.int .u32 x.l) := hc 0 _ rfl
      have c1 : (w3.drewN n).cell? ⟨(a.add (k * 2)).block, (a.add (k * 2)).off + 1, Option.none⟩ = some (.int .u32 x.r) := (add_next a (k * 2) 1 (by omega)) ▸ hc 1 _ rfl
      have d0 : (w3.drewN n).cell? (b.add (k * 2)) = some (.int .u32 x.l) := hd 0 _ rfl
      have d1 : (w3.drewN n).cell? ⟨(b.add (k * 2)).block, (b.add (k * 2)).off + 1, Option.none⟩ = some (.int .u32 x.r) := (add_next b (k * 2) 1 (by omega)) ▸ hd 1 _ rfl
      generalize hW : w3.drewN n = W at *
      have HW := Lib.hid hW
      have k1 : (0 : Int) ≤ (k : Int) := by omega
      have k2 : (k : Int) < (xs.length : Int) := by omega
      clear hc hd hx hW
      go_wp2
      go_quiet (fail)
      go_wp2
      go_roundw
      case rel => exact ⟨k + 1, by omega, by go_num, Lib.hid ⟨_, by rw [← HW.out, World.drewN_drewN]⟩⟩
      case measure => simp [intOf]; omega
    · go_wp2_with fail
      refine (known_calls _).mono ?_
      rintro e w4 ⟨rfl, b4⟩
      go_wp2
      go_ret
      exact ⟨rfl, bn_then (below_drewN B3.out n) b4⟩
end Go.Proofs.Ytaokiocpfpdmkaa.Dups
