/- Chapter 13 (alarm): Push, Pop. -/
import Derived.Test.YtiphkgkhfomcaaaLess
import Derived.Outline
import Derived.Deep.RegionLaw
set_option linter.unusedSimpArgs false
set_option linter.unusedVariables false
attribute [local go_sem ↓] Go.wp_at_zero Go.wp_at_succ
namespace Go.Proofs.Ytiphkgkhfomcaaa.Alarm
open Go.BigFrame Go.RowKit Go.OpenShut Go.Proofs.Ytiphkgkhfomcaaa.Aid Go.Proofs.Ytiphkgkhfomcaaa.DMap Go.Proofs.Ytiphkgkhfomcaaa.Heap
def Turned (w : World) (R mb : Nat) (fv : Value) (l' : List Ring) (r : Value) (e : Ending) (w' : World) : Prop :=
  e = .returned r ∧ ∃ fv' m', IsRings w' R mb fv' m' l' ∧ Kp (rb R mb fv) w w' ∧ (∀ k, fv'.ownBlock = some k → fv.ownBlock = some k ∨ w.heap.size ≤ k)
theorem info_parts {i : TypeId} {z : Value} {s b : Nat} (h : (Try.prog.info? i).map (fun i => (i.zero, i.size, i.bytes)) = some (some z, s, b)) : ∃ x, Try.prog.info? i = some x ∧ x.zero = some z ∧ x.size = s ∧ x.bytes = b := by
  cases hx : Try.prog.info? i with
  | none => rw [hx] at h; simp at h
  | some x =>
    rw [hx] at h
    simp at h
    exact ⟨x, rfl, h.1, h.2.1, h.2.2⟩
theorem info100 : (Try.prog.info? 100).map (fun i => (i.zero, i.size, i.bytes)) = some (some (.agg #[.int .i64 0, .int .i64 0]), 2, 16) := by kernel_rfl
theorem src_ring {w : World} {b : Nat} {x : Ring} (h : Blk w b 100 #[.int .i64 x.at_, .int .i64 x.name]) : ∀ j u, ([x].flatMap encR)[j]? = some u → w.cell? ((⟨b, 0, Option.none⟩ : Addr).add j) = some u := by
  intro j u hu
  have hj : j < 2 := by have := (List.getElem?_eq_some_iff.1 hu).1; simpa [encR] using this
  rw [add0, h.cell j]
  have hj' : j = 0 ∨ j = 1 := by omega
  rcases hj' with rfl | rfl <;> simpa [encR] using hu
theorem push_end {w w1 w2 w4 : World} {R mb : Nat} {fv v' : Value} {m : Int → Option Value} {l : List Ring} {x : Ring} {o : Obj} (h : IsRings w R mb fv m l) (hx : m x.name = Option.none) (hf : Fits x.name) (hl : l.length < 1000)
    (b1 : Below w.heap.size w w1) (hg : w1.drew.grownBy w2 (some mb)) (hm : MapOf w2 mb (.int .i64 0) (put m x.name (.int .i64 l.length)) (l.length + 1)) (ha : App (w2.alloc o).drew w4 fv v') (hr : RowOf 100 2 encR w4 v' (l ++ [x])) :
    Turned w R mb fv (l ++ [x]) (.tuple #[]) (.returned (.tuple #[])) (w4.setCell ⟨R, 0, Option.none⟩ v') := by
  have hR := h.box.lt
  have hM := h.map.lt
  have s1 := b1.size
  have s2 := hg.size
  have s4 := ha.size
  have s2' : w1.heap.size ≤ w2.heap.size := s2
  have s5 : (w2.alloc o).heap.size = w2.heap.size + 1 := World.size_alloc _ _
  have s4' : w2.heap.size + 1 ≤ w4.heap.size := s5 ▸ s4
  have own : ∀ k, v'.ownBlock = some k → fv.ownBlock = some k ∨ w.heap.size ≤ k := fun k hk => (ha.own k hk).imp id (fun h1 => by
    have h1' : w2.heap.size + 1 ≤ k := s5 ▸ h1
    omega)
  have keep : ∀ k, k < w.heap.size → k ≠ mb → fv.ownBlock ≠ some k → w4.heap[k]? = w.heap[k]? := fun k h1 h2 h3 =>
    (ha.block k (show k < (w2.alloc o).heap.size by omega) h3).trans ((Below.heap_alloc w2 o k (show k < w2.heap.size by omega)).trans ((hg.block k (show k < w1.heap.size by omega) (fun e => h2 (by simpa using e))).trans (b1.block k h1)))
  have X : Blk w4 R 93 #[fv, .map (some mb)] := (keep R hR h.gm h.fg).trans h.box
  have hvR : ∀ k, v'.ownBlock = some k → k ≠ R := fun k hk e => by
    rcases own k hk with h1 | h1
    · exact h.fg (by rw [h1, e])
    · omega
  have hvm : ∀ k, v'.ownBlock = some k → k ≠ mb := fun k hk e => by
    rcases own k hk with h1 | h1
    · exact h.fm (by rw [h1, e])
    · omega
  have M4 : MapOf w4 mb (.int .i64 0) (put m x.name (.int .i64 l.length)) (l.length + 1) := by
    obtain ⟨D, ⟨es, cl, e1, e2⟩, h2⟩ := hm
    exact ⟨D, ⟨es, cl, (ha.block mb (show mb < (w2.alloc o).heap.size by omega) h.fm).trans ((Below.heap_alloc w2 o mb (show mb < w2.heap.size by omega)).trans e1), e2⟩, h2⟩
  refine ⟨rfl, v', put m x.name (.int .i64 l.length), ⟨(X.set_ 0 v').eq (by simp), hr.same (fun k hk => Below.heap_setCell w4 _ _ k (hvR k hk)), ?_, plc_push h.plc hx, h.gm, fun e => hvR R e rfl, fun e => hvm mb e rfl, by simp; omega, fun k hk => ?_⟩, ?_, own⟩
  · have := M4.set_ (p := ⟨R, 0, Option.none⟩) (fun e => h.gm e.symm) v'
    simpa using this
  · simp only [List.length_append, List.length_cons, List.length_nil, Nat.zero_add] at hk
    by_cases e : k = l.length
    · subst e; rw [g_app_eq]; exact hf
    · rw [g_app_lt (by omega)]; exact h.fit k (by omega)
  · refine ⟨ha.os.trans (hg.os.trans b1.os), ha.tape.trans (hg.tape.trans b1.tape), ha.output.trans (hg.output.trans b1.output), by simp [World.setCell]; omega, fun k h1 h2 => ?_⟩
    have hkR : k ≠ R := fun e => h2 (.inl e)
    have hkm : k ≠ mb := fun e => h2 (.inr (.inl e))
    have hkf : fv.ownBlock ≠ some k := fun e => h2 (.inr (.inr e))
    exact (Below.heap_setCell w4 ⟨R, 0, Option.none⟩ _ k hkR).trans (keep k h1 hkm hkf)
set_option maxRecDepth 100000 in
set_option maxHeartbeats 4000000 in
theorem push_calls (R mb : Nat) (fv : Value) (m : Int → Option Value) (l : List Ring) (x : Ring) (w : World) (h : IsRings w R mb fv m l) (hx : m x.name = Option.none) (hf : Fits x.name) (hl : l.length < 1000) :
    Calls Try.prog 112 #[.pointer (some ⟨R, 0, Option.none⟩), .iface 100 (ringV x)] w (Turned w R mb fv (l ++ [x]) (.tuple #[])) := by
  obtain ⟨i0, hi, hz0, hz1, hz2⟩ := info_parts info100
  have H := Lib.hid h
  have hR := h.box.lt
  obtain ⟨A, c, rfl, hcap⟩ := h.row.slice
  obtain ⟨a, nm⟩ := x
  simp only at hx hf
  -- the box, the map's new entry, the row's new element
  have b1 : Below w.heap.size w (w.alloc (.cells #[.int .i64 a, .int .i64 nm] 100)) := (Below.refl _ w).alloc (Nat.le_refl _) _
  have x1 := Blk.new w 100 #[.int .i64 a, .int .i64 nm]
  have X1 := h.box.below b1 hR
  have M1 : MapOf (w.alloc (.cells #[.int .i64 a, .int .i64 nm] 100)).drew mb (.int .i64 0) m l.length := by have := h.map.below b1; exact this
  have R1 := h.row.below b1
  have hs1 : (w.alloc (.cells #[.int .i64 a, .int .i64 nm] 100)).heap.size = w.heap.size + 1 := World.size_alloc _ _
  obtain ⟨w2, r2, m2, g2, z2⟩ := M1.store Try.underlying90 (by unfold maxLen; omega) hf (.int .i64 l.length)
  rw [hx] at m2
  simp only [Option.isSome_none, Bool.false_eq_true, if_false] at m2
  obtain ⟨w1, hw1⟩ : ∃ w1, w1 = w.alloc (.cells #[.int .i64 a, .int .i64 nm] 100) := ⟨_, rfl⟩
  rw [← hw1] at b1 x1 X1 r2 g2 z2 R1 hs1
  clear M1
  have x2 : Blk w2 w.heap.size 100 #[.int .i64 a, .int .i64 nm] := (g2.block w.heap.size (show w.heap.size < w1.heap.size by omega) (fun e => by have := h.map.lt; simp at e; omega)).trans x1
  have X2 : Blk w2 R 93 #[.slice A l.length c, .map (some mb)] := (g2.block R (show R < w1.heap.size by omega) (fun e => h.gm (by simpa using e))).trans X1
  have R2 : RowOf 100 2 encR w2 (.slice A l.length c) l := R1.same (fun k hk => g2.block k (R1.lt k hk) (fun e => h.fm (by rw [hk]; exact e)))
  have z2' : w2.heap.size = w1.heap.size := z2
  have R3 : RowOf 100 2 encR ((w2.alloc (.cells #[.int .i64 a, .int .i64 nm] 100)).drew) (.slice A l.length c) l := R2.same (fun k hk => Below.heap_alloc w2 _ k (R2.lt k hk))
  have E := Lib.hid (fun (v' : Value) (w4 : World) (hr : RowOf 100 2 encR w4 v' (l ++ [⟨a, nm⟩])) (ha : App ((w2.alloc (.cells #[.int .i64 a, .int .i64 nm] 100)).drew) w4 (.slice A l.length c) v') => And.intro (push_end (x := ⟨a, nm⟩) h hx hf hl b1 g2 m2 ha hr) (show Blk w4 R 93 #[.slice A l.length c, .map (some mb)] from (ha.block R (show R < (w2.alloc (.cells #[.int .i64 a, .int .i64 nm] 100)).heap.size by rw [World.size_alloc]; omega) h.fg).trans ((Below.heap_alloc w2 _ R (show R < w2.heap.size by omega)).trans X2)))
  have HR3 := Lib.hid R3
  have HL := Lib.hid hl
  have c0 := X1.cell 0
  have c1 := X1.cell 1
  have d0 := X2.cell 0
  have d3 := (X2.alloc (.cells #[.int .i64 a, .int .i64 nm] 100)).cell 0
  have bx1 := x1.cell 1
  have by0 := x2.cell 0
  have by1 := x2.cell 1
  simp at c0 c1 d0 d3 bx1 by0 by1
  obtain ⟨n, hn⟩ : ∃ n, l.length = n := ⟨_, rfl⟩
  rw [hn] at r2 c0 d0 d3
  clear h H hx hf hl hcap b1 x1 X1 R1 hs1 m2 g2 x2 X2 R2 R3 z2 z2'
  rw [hn] at E HR3
  have HN := Lib.hid hn
  clear hn
  have ta : (Instr.typeAssert (.iface 100 (.agg #[.int .i64 a, .int .i64 nm])) 20 100 true).run Try.prog w = .ok (.tuple #[.agg #[.int .i64 a, .int .i64 nm], .bool true]) w := by
    simp [Instr.typeAssert, run_underlying Try.underlying100, Result.andThen]
  show Calls Try.prog 112 #[.pointer (some ⟨R, 0, Option.none⟩), .iface 100 (.agg #[.int .i64 a, .int .i64 nm])] w _
  go_enter Try.func112, Try.ntmps112
  go_upto_region 2 with fail
  rw [← hw1]
  clear hw1
  go_region
  go_upto_region 3 with fail
  go_region_law ((refine step_append_row (by rfl) _ _ _ (by rfl) i0 _ 16 Try.underlying91 hi hz0 hz1 hz2 (by decide) (by decide) encR_len encR_one (.slice A n c) l (by rfl) HR3.out ⟨w2.heap.size, 0, Option.none⟩ 1 _ [⟨a, nm⟩] rfl (by rfl) (src_ring (Blk.new w2 100 _)) (by have := HN.out; have := HL.out; unfold maxLen; omega) (by have := HN.out; have := HL.out; omega) ?_; intro v' w4 hr ha; obtain ⟨A', n', cap', rfl⟩ := hr.some_slice; obtain ⟨e1, X⟩ := E.out _ _ hr ha; have x0 : w4.cell? ⟨R, 0, Option.none⟩ = some (.slice A n c) := X.cell 0; have xf := X.frozen; have HE := Lib.hid e1; clear X ha hr e1))
  all_goals go_wp2
  all_goals
    refine bodyPost_end (v := .tuple #[]) (by simp [results, Try.results112, go_sem]; done) rfl ?_
    rw [HN.out]
    exact HE.out
theorem pop_end {w w1 w2 : World} {R mb n : Nat} {b cap : Nat} {m : Int → Option Value} {l : List Ring} (h : IsRings w R mb (.slice (some ⟨b, 0, Option.none⟩) (n + 1) cap) m l) (hn : l.length = n + 1)
    (b1 : Below w.heap.size w w1) (hg : w1.drew.grownBy w2 (some mb)) (hm : MapOf w2 mb (.int .i64 0) (del m (g l n).name) n) :
    Turned w R mb (.slice (some ⟨b, 0, Option.none⟩) (n + 1) cap) (l.take n) (.iface 100 (ringV (g l n))) (.returned (.iface 100 (ringV (g l n)))) (w2.setCell ⟨R, 0, Option.none⟩ (.slice (some ⟨b, 0, Option.none⟩) n cap)) := by
  have hR := h.box.lt
  have s1 := b1.size
  have s2 : w1.heap.size ≤ w2.heap.size := hg.size
  have hRb : R ≠ b := fun e => h.fg (by rw [e]; rfl)
  have hmb : mb ≠ b := fun e => h.fm (by rw [e]; rfl)
  have keep : ∀ k, k < w.heap.size → k ≠ mb → w2.heap[k]? = w.heap[k]? := fun k h1 h2 =>
    (hg.block k (show k < w1.heap.size by omega) (fun e => h2 (by simpa using e))).trans (b1.block k h1)
  have X : Blk w2 R 93 #[.slice (some ⟨b, 0, Option.none⟩) (n + 1) cap, .map (some mb)] := (keep R hR h.gm).trans h.box
  have hl : (l.take n).length = n := by simp; omega
  have row : RowOf 100 2 encR w2 (.slice (some ⟨b, 0, Option.none⟩) n cap) (l.take n) := by
    obtain ⟨h0, _⟩ | ⟨b', cap', cur, h0, h1, h2, h3, h4, h5⟩ := h.row
    · injection h0 with h0; cases h0
    · injection h0 with e1 e2 e3
      obtain rfl : b = b' := by simpa using e1
      subst e3
      have hbl : b < w.heap.size := (Array.getElem?_eq_some_iff.1 h3).1
      refine .inr ⟨b, cap, cur, by rw [hl], by omega, h2, (keep b hbl (fun e => hmb e.symm)).trans h3, h4, ?_⟩
      rw [hl]
      have h6 : (cur.toList.take ((n + 1) * 2)).take (n * 2) = cur.toList.take (n * 2) := by rw [List.take_take]; congr 1; omega
      rw [hn] at h5
      rw [← h6, h5]
      conv => lhs; rw [← List.take_append_drop n l, List.flatMap_append]
      have h7 : ((l.take n).flatMap encR).length = n * 2 := by rw [length_flat encR 2 encR_len, hl]
      rw [List.take_append_of_le_length (by omega), List.take_of_length_le (by omega)]
  refine ⟨rfl, _, del m (g l n).name, ⟨(X.set_ 0 _).eq (by simp), row.same (fun k hk => ?_), ?_, plc_pop h.plc hn, h.gm, h.fg, h.fm, by rw [hl]; have := h.len; omega, fun k hk => ?_⟩, ?_, fun k hk => .inl hk⟩
  · obtain rfl : b = k := by simpa [Value.ownBlock] using hk
    exact Below.heap_setCell w2 _ _ b (fun e => hRb e.symm)
  · rw [hl]
    exact hm.set_ (p := ⟨R, 0, Option.none⟩) (fun e => h.gm e.symm) _
  · rw [hl] at hk
    rw [g_take hk]
    exact h.fit k (by omega)
  · refine ⟨hg.os.trans b1.os, hg.tape.trans b1.tape, hg.output.trans b1.output, by simp [World.setCell]; omega, fun k h1 h2 => ?_⟩
    exact (Below.heap_setCell w2 ⟨R, 0, Option.none⟩ _ k (fun e => h2 (.inl e))).trans (keep k h1 (fun e => h2 (.inr (.inl e))))
set_option maxRecDepth 100000 in
set_option maxHeartbeats 4000000 in
theorem pop_calls (R mb : Nat) (fv : Value) (m : Int → Option Value) (l : List Ring) (n : Nat) (w : World) (h : IsRings w R mb fv m l) (hn : l.length = n + 1) :
    Calls Try.prog 111 #[.pointer (some ⟨R, 0, Option.none⟩)] w (Turned w R mb fv (l.take n) (.iface 100 (ringV (g l n)))) := by
  obtain ⟨b, cap, rfl, hcap⟩ : ∃ b cap, fv = .slice (some ⟨b, 0, Option.none⟩) (n + 1) cap ∧ n + 1 ≤ cap := by
    obtain ⟨_, h0⟩ | ⟨b, cap, cur, h0, h1, h2, _⟩ := h.row
    · rw [h0] at hn; simp at hn
    · rw [hn] at h0 h1; exact ⟨b, cap, h0, h1⟩
  have hR := h.box.lt
  have hlen := h.len
  rw [hn] at hlen
  obtain ⟨n0, n1⟩ := row_cells h.row n (by omega)
  have fn := h.fit n (by omega)
  have pn := h.plc.at_ n (by omega)
  have b1 : Below w.heap.size w (w.alloc (.cells #[.int .i64 (g l n).at_, .int .i64 (g l n).name] 100)) := (Below.refl _ w).alloc (Nat.le_refl _) _
  have x1 := Blk.new w 100 #[.int .i64 (g l n).at_, .int .i64 (g l n).name]
  have X1 := h.box.below b1 hR
  have M1 : MapOf (w.alloc (.cells #[.int .i64 (g l n).at_, .int .i64 (g l n).name] 100)).drew mb (.int .i64 0) m l.length := by have := h.map.below b1; exact this
  have hs1 : (w.alloc (.cells #[.int .i64 (g l n).at_, .int .i64 (g l n).name] 100)).heap.size = w.heap.size + 1 := World.size_alloc _ _
  obtain ⟨w2, r2, m2, g2, z2⟩ := M1.drop Try.underlying90 fn 0
  rw [pn] at m2
  simp only [Option.isSome_some, if_true] at m2
  obtain ⟨w1, hw1⟩ : ∃ w1, w1 = w.alloc (.cells #[.int .i64 (g l n).at_, .int .i64 (g l n).name] 100) := ⟨_, rfl⟩
  rw [← hw1] at b1 x1 X1 r2 g2 z2 hs1
  clear M1
  have x2 : Blk w2 w.heap.size 100 #[.int .i64 (g l n).at_, .int .i64 (g l n).name] := (g2.block w.heap.size (show w.heap.size < w1.heap.size by omega) (fun e => by have := h.map.lt; simp at e; omega)).trans x1
  have X2 : Blk w2 R 93 #[.slice (some ⟨b, 0, Option.none⟩) (n + 1) cap, .map (some mb)] := (g2.block R (show R < w1.heap.size by omega) (fun e => h.gm (by simpa using e))).trans X1
  have E := Lib.hid (pop_end h hn b1 g2 (by rw [hn] at m2; exact m2))
  have x3 := x2.far (p := ⟨R, 0, Option.none⟩) (show w.heap.size ≠ R by omega) (.slice (some ⟨b, 0, Option.none⟩) n cap)
  have c0 := h.box.cell 0
  have c1 := X1.cell 1
  have d0 := X2.cell 0
  have f2 := X2.frozen
  have bx1 := x1.cell 1
  have by0 := x3.cell 0
  have by1 := x3.cell 1
  generalize hx : g l n = x at *
  obtain ⟨a, nm⟩ := x
  simp at c0 c1 d0 bx1 by0 by1
  have q0 : (0 : Int) ≤ (n : Int) := by omega
  have q1 : (n : Int) < ((n + 1 : Nat) : Int) := by omega
  have mk : ∀ (v : Value) (W : World), (Instr.makeInterface 100 v).run Try.prog W = .ok (.iface 100 v) W := fun v W => by
    simp [Instr.makeInterface, run_underlying Try.underlying100, Result.andThen]
  simp only at n0 n1 r2 bx1 by0 by1 hw1
  clear h hn b1 x1 X1 hs1 m2 g2 x2 X2 x3 z2 fn pn hx
  go_enter Try.func111, Try.ntmps111
  go_upto_region 3 with fail
  rw [← hw1]
  clear hw1
  go_region
  all_goals go_wp2
  all_goals
    go_ret
    exact E.out
end Go.Proofs.Ytiphkgkhfomcaaa.Alarm
