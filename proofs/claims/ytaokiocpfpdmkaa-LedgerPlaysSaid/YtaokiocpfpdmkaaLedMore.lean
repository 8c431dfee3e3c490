/- Chapter 19 (ledger): the walks of Again, Dup and Clone. -/
import Derived.Test.YtaokiocpfpdmkaaLed
import Derived.Deep.RegionLaw
attribute [local go_sem ↓] Go.wp_at_zero Go.wp_at_succ
namespace Go.Proofs.Ytaokiocpfpdmkaa.Led
open Go.BigFrame Go.RowKit Go.OpenShut Go.Proofs.Ytaokiocpfpdmkaa.Aid Go.Proofs.Ytaokiocpfpdmkaa.Spans
theorem again_none (s : Span) (w : World) : Calls Try.prog 26 #[.pointer none, .agg #[.int .i64 s.lo, .int .i64 s.hi]] w (Gives w (.int .i64 1)) := by
  go_enter Try.func26, Try.ntmps26
  go_wp2
  go_ret
  exact ⟨rfl, (Below.refl _ _).alloc (Nat.le_refl _) _⟩
theorem again_range (g : Nat) (s : Span) (w : World) (hl : len s = 0) : Calls Try.prog 26 #[.pointer (some ⟨g, 0, none⟩), .agg #[.int .i64 s.lo, .int .i64 s.hi]] w (Gives w (.int .i64 3)) := by
  have K := Lib.hid (len_calls s)
  rw [hl] at K
  clear hl
  go_enter Try.func26, Try.ntmps26
  go_wp2_with (go_at_call 56; refine (K.out _).mono ?_; rintro e w1 ⟨rfl, hb⟩)
  go_ret
  exact ⟨rfl, below1 hb⟩
theorem again_full (g : Nat) (v : Value) (L : Led) (s : Span) (w : World) (h : IsLed w g v L) (hl : len s ≠ 0) (hf : L.list.length = 256) : Calls Try.prog 26 #[.pointer (some ⟨g, 0, none⟩), .agg #[.int .i64 s.lo, .int .i64 s.hi]] w (Does w g v (.int .i64 4) ⟨L.opn, L.cwnd, L.thresh, L.list, true⟩) := by
  have K := Lib.hid (len_calls s)
  have hl1 : decide (len s = 0) = false := by simpa using hl
  have hl2 : (len s == 0) = false := by simpa using hl
  generalize len s = n at *
  have H := Lib.hid h
  have HF := Lib.hid hf
  clear h hl hf
  go_enter Try.func26, Try.ntmps26
  go_wp2_with fail
  refine (K.out _).mono ?_
  rintro e w1 ⟨rfl, hb⟩
  have HL := Lib.hid (H.out.below (below1 hb))
  obtain ⟨A, cap, rfl, _⟩ := HL.out.row.slice
  have c3 : w1.cell? ⟨g, 3, Option.none⟩ = some (.slice A 256 cap) := by rw [← HF.out]; exact HL.out.box.cell 3
  have c4 : w1.cell? ⟨g, 4, Option.none⟩ = some (.bool L.spilt) := HL.out.box.cell 4
  have fz : w1.frozen? ⟨g, 4, Option.none⟩ = false := HL.out.box.frozen 4
  have HB := Lib.hid (below1 hb)
  clear hb
  go_wp2
  go_ret
  refine ⟨rfl, _, ⟨?_, row_set HL.out.row HL.out.apart _ _, HL.out.apart⟩, below_kept HB.out (kept_set (kept_refl _ _ _) _ _), fun k hk => .inl hk⟩
  exact (HL.out.box.set_ 4 _).eq (by simp [cells])
theorem info26 : (Try.prog.info? 26).map (fun i => (i.zero, i.size, i.bytes)) = some (some (.agg #[.int .i64 0, .int .i64 0]), 2, 16) := by kernel_rfl
theorem encS_len (s : Span) : (encS s).length = 2 := rfl
theorem encS_one (s : Span) : ∀ u ∈ encS s, u.oneCell' = true := by intro u hu; simp [encS] at hu; rcases hu with rfl | rfl <;> rfl
theorem src_one {W : World} {H : Nat} {t : TypeId} {s : Span} (h : W.heap[H]? = some (.cells #[.int .i64 s.lo, .int .i64 s.hi] t (0, 0))) : ∀ j u, ([s].flatMap encS)[j]? = some u → W.cell? ((⟨H, 0, Option.none⟩ : Addr).add j) = some u := by
  intro j u hu
  have hb : Blk W H t #[.int .i64 s.lo, .int .i64 s.hi] := h
  rw [add0]
  match j, hu with
  | 0, hu => simp [encS] at hu; subst hu; exact hb.cell 0
  | 1, hu => simp [encS] at hu; subst hu; exact hb.cell 1
  | j + 2, hu => simp [encS] at hu
theorem kept_app {w W w' : World} {g : Nat} {v v' : Value} (hb : Below w.heap.size w W) (ha : App W w' v v') : Kept w w' g v :=
  ⟨ha.os.trans hb.os, ha.tape.trans hb.tape, ha.output.trans hb.output, Nat.le_trans hb.size ha.size, fun k hk _ h2 => (ha.block k (Nat.lt_of_lt_of_le hk hb.size) h2).trans (hb.block k hk)⟩
theorem row_alloc {w : World} {v : Value} {xs : List Span} (h : RowOf 26 2 encS w v xs) (o : Obj) : RowOf 26 2 encS (w.alloc o) v xs := h.same fun k hk => Below.heap_alloc w o k (h.lt k hk)
theorem row_drew {w : World} {v : Value} {xs : List Span} (h : RowOf 26 2 encS w v xs) : RowOf 26 2 encS w.drew v xs := h
set_option maxRecDepth 100000 in
set_option maxHeartbeats 4000000 in
theorem again_ok (g : Nat) (v : Value) (L : Led) (s : Span) (w : World) (h : IsLed w g v L) (hl : len s ≠ 0) (hf : L.list.length < 256) : Calls Try.prog 26 #[.pointer (some ⟨g, 0, none⟩), .agg #[.int .i64 s.lo, .int .i64 s.hi]] w (Does w g v (.int .i64 0) ⟨L.opn, L.cwnd, L.thresh, L.list ++ [s], L.spilt⟩) := by
  obtain ⟨i0, hi, hz0, hz1, hz2⟩ := info_parts info26
  have K := Lib.hid (len_calls s)
  have hl1 : decide (len s = 0) = false := by simpa using hl
  have hl2 : (len s == 0) = false := by simpa using hl
  generalize len s = n at *
  have H := Lib.hid h
  have hf2 : (L.list.length : Int) < 256 := by omega
  have HF := Lib.hid hf
  clear h hl hf
  go_enter Try.func26, Try.ntmps26
  go_wp2_with fail
  refine (K.out _).mono ?_
  rintro e w1 ⟨rfl, hb⟩
  have HL := Lib.hid (H.out.below (below1 hb))
  obtain ⟨A, cap, rfl, _⟩ := HL.out.row.slice
  have c3 : w1.cell? ⟨g, 3, Option.none⟩ = some (.slice A L.list.length cap) := HL.out.box.cell 3
  have fz : w1.frozen? ⟨g, 3, Option.none⟩ = false := HL.out.box.frozen 3
  obtain ⟨hc, hf⟩ := bcell hb
  have HB := Lib.hid (below1 hb)
  clear hb
  have hlt := HL.out.box.lt
  go_wp2
  go_region_law ((refine step_append_row (by rfl) _ _ _ (by rfl) i0 _ 16 Try.underlying27 hi hz0 hz1 hz2 (by decide) (by decide) encS_len encS_one (.slice A L.list.length cap) L.list (by rfl) (by first | exact row_drew (row_alloc HL.out.row.2 _) | exact row_alloc (row_drew HL.out.row.2) _) _ 1 _ [s] rfl (by rfl) (src_one (heap_alloc_new _ _)) (by have := HF.out; unfold maxLen; omega) (by have := HF.out; omega) ?_; intro v' w' hr ha; obtain ⟨A', n', cap', rfl⟩ := hr.some_slice; have X : Blk w' g 102 (cells L (.slice A L.list.length cap)) := (ha.block g (by simp; omega) HL.out.apart).trans (by first | exact Blk.alloc HL.out.box _ | exact Blk.drew (Blk.alloc HL.out.box _)); have x3 : w'.cell? ⟨g, 3, Option.none⟩ = some (.slice A L.list.length cap) := X.cell 3; have xf := X.frozen; have HA := Lib.hid ha; have HR := Lib.hid hr; have HXX := Lib.hid X; clear X ha hr))
  all_goals
    go_wp2
    go_ret
    have hlw : ∀ k, (Value.slice A' n' cap').ownBlock = some k → k ≠ g := fun k hk => by
      rcases HA.out.own k hk with h1 | h1
      · exact own_ne HL.out k h1
      · have h2 : w1.heap.size + 1 ≤ k := by simpa using h1
        omega
    refine ⟨rfl, .slice A' n' cap', ⟨(HXX.out.set_ 3 _).eq (by simp [cells]), ⟨by have := HF.out; simp; omega, ?_⟩, fun e => hlw g e rfl⟩, ?_, ?_⟩
    · exact HR.out.same (fun k hk => Below.heap_setCell _ _ _ k (hlw k hk))
    · exact kept_set (kept_app (by first | exact below_drew (HB.out.alloc HB.out.size _) | exact (below_drew HB.out).alloc HB.out.size _) HA.out) _ _
    · intro k hk
      rcases HA.out.own k hk with h1 | h1
      · exact .inl h1
      · have h2 : w1.heap.size + 1 ≤ k := by simpa using h1
        have := HB.out.size
        exact .inr (by omega)
end Go.Proofs.Ytaokiocpfpdmkaa.Led
