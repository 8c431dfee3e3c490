/- Chapter 10 (dup): spans as blocks: the program's Blocks and the document's. -/
import Derived.Test.YtaokiocpfpdmkaaDupLaws
import Derived.Test.YtaokiocpfpdmkaaDupPlain
import Derived.Deep.RegionLaw
set_option linter.unusedSimpArgs false
set_option linter.unusedVariables false
attribute [local go_sem ↓] Go.wp_at_zero Go.wp_at_succ
namespace Go.Proofs.Ytaokiocpfpdmkaa.Dups
open Go.BigFrame Go.RowKit Go.OpenShut Go.Proofs.Ytaokiocpfpdmkaa.Aid Go.Proofs.Ytaokiocpfpdmkaa.Spans
open Led (encS encS_len encS_one info26 row_alloc row_drew src_one)
theorem info43 : (Try.prog.info? 43).map (fun i => (i.zero, i.size, i.bytes)) = some (some (.agg #[.int .u32 0, .int .u32 0]), 2, 8) := by kernel_rfl
theorem encK_len (s : Block) : (encK s).length = 2 := rfl
theorem encK_one (s : Block) : ∀ u ∈ encK s, u.oneCell' = true := by intro u hu; simp [encK] at hu; rcases hu with rfl | rfl <;> rfl
theorem srcK_one {W : World} {H : Nat} {t : TypeId} {s : Block} (h : W.heap[H]? = some (.cells #[.int .u32 s.l, .int .u32 s.r] t (0, 0))) : ∀ j u, ([s].flatMap encK)[j]? = some u → W.cell? ((⟨H, 0, Option.none⟩ : Addr).add j) = some u := by
  intro j u hu
  have hb : Blk W H t #[.int .u32 s.l, .int .u32 s.r] := h
  rw [add0]
  match j, hu with
  | 0, hu => simp [encK] at hu; subst hu; exact hb.cell 0
  | 1, hu => simp [encK] at hu; subst hu; exact hb.cell 1
  | j + 2, hu => simp [encK] at hu
/-- What is put together, in a box; the first number, in another one. -/
structure PutSt (w W : World) (g h : Nat) (first : Int) (xs : List Block) (v : Value) : Prop where
  box : Blk W g 23 #[v]
  num : Blk W h 22 #[.int .u32 first]
  row : RowOf 43 2 encK W v xs
  own : ∀ b, v.ownBlock = some b → w.heap.size ≤ b ∧ b ≠ g ∧ b ≠ h
  bel : Below w.heap.size w W
  gg : w.heap.size ≤ g
  hh : w.heap.size ≤ h
  gh : g ≠ h
section
variable {w W W' : World} {g h : Nat} {first : Int} {xs xs' : List Block} {v v' : Value}
theorem PutSt.below (H : PutSt w W g h first xs v) (hb : Below W.heap.size W W') : PutSt w W' g h first xs v :=
  ⟨H.box.below hb H.box.lt, H.num.below hb H.num.lt, H.row.below hb, H.own, below_then H.bel H.bel.size hb, H.gg, H.hh, H.gh⟩
theorem PutSt.drew (H : PutSt w W g h first xs v) : PutSt w W.drew g h first xs v := ⟨H.box, H.num, H.row, H.own, below_drew H.bel, H.gg, H.hh, H.gh⟩
theorem PutSt.app (H : PutSt w W g h first xs v) (hr : RowOf 43 2 encK W' v' xs') (ha : App W W' v v') : PutSt w (W'.setCell ⟨g, 0, Option.none⟩ v') g h first xs' v' := by
  have hg := H.box.lt
  have hh := H.num.lt
  have hs := H.bel.size
  have ho : ∀ b, v'.ownBlock = some b → w.heap.size ≤ b ∧ b ≠ g ∧ b ≠ h := fun b e => by
    rcases ha.own b e with h1 | h1
    · exact H.own b h1
    · exact ⟨by omega, by omega, by omega⟩
  have b1 : Blk W' g 23 _ := (ha.block g hg fun e => (H.own g e).2.1 rfl).trans H.box
  have b2 : Blk W' h 22 _ := (ha.block h hh fun e => (H.own h e).2.2 rfl).trans H.num
  refine ⟨(b1.set_ 0 v').eq (by simp), b2.far (Ne.symm H.gh) _, hr.same fun k e => Below.heap_setCell W' _ v' k (ho k e).2.1, ho, ?_, H.gg, H.hh, H.gh⟩
  exact Below.setCell ⟨ha.os.trans H.bel.os, ha.tape.trans H.bel.tape, ha.output.trans H.bel.output, Nat.le_trans hs ha.size, fun k hk => (ha.block k (by omega) (fun e => by have := (H.own k e).1; omega)).trans (H.bel.block k hk)⟩ H.gg v'
end
def Puts (w : World) (g h : Nat) (first : Int) (xs : List Block) (e : Ending) (w' : World) : Prop := e = .returned (.tuple #[]) ∧ ∃ v, PutSt w w' g h first xs v
theorem rowK_drew {w : World} {v : Value} {xs : List Block} (h : RowOf 43 2 encK w v xs) : RowOf 43 2 encK w.drew v xs := h
theorem rowK_alloc {w : World} {v : Value} {xs : List Block} (h : RowOf 43 2 encK w v xs) (o : Obj) : RowOf 43 2 encK (w.alloc o) v xs := h.same fun k hk => Below.heap_alloc w o k (h.lt k hk)
set_option maxRecDepth 100000 in
set_option maxHeartbeats 4000000 in
theorem put_calls (s : Span) (w W : World) (g h : Nat) (first : Int) (xs : List Block) (v : Value) (H : PutSt w W g h first xs v) (f0 : 0 ≤ first) (f1 : first < 4294967296) (hx : xs.length ≤ 4) :
    Calls Try.prog 55 #[.agg #[.int .i64 s.lo, .int .i64 s.hi], .pointer (some ⟨g, 0, Option.none⟩), .pointer (some ⟨h, 0, Option.none⟩)] W (Puts w g h first (putOf first xs s)) := by
  have K := Lib.hid (len_calls s)
  have HH := Lib.hid H
  obtain ⟨A, c, rfl, _⟩ := H.row.slice
  by_cases hl : 0 < len s
  · by_cases hr : xs.length < 4
    · have HP : Hid (putOf first xs s = xs ++ [blk first s]) := Lib.hid (by unfold putOf; rw [if_pos ⟨hl, hr⟩])
      rw [HP.out]
      obtain ⟨i0, hi, hz0, hz1, hz2⟩ := info_parts info43
      have WL := Lib.hid (wrap_calls s.lo)
      have WH := Lib.hid (wrap_calls s.hi)
      have hb : blk first s = ⟨(first + s.lo % 4294967296) % 4294967296, (first + s.hi % 4294967296) % 4294967296⟩ := rfl
      have bl0 : 0 ≤ s.lo % 4294967296 := by omega
      have bl1 : s.lo % 4294967296 < 4294967296 := by omega
      have bh0 : 0 ≤ s.hi % 4294967296 := by omega
      have bh1 : s.hi % 4294967296 < 4294967296 := by omega
      generalize s.lo % 4294967296 = a at *
      generalize s.hi % 4294967296 = b at *
      rw [hb]
      have hr2 : (xs.length : Int) < 4 := by omega
      have HR := Lib.hid hr
      clear H HP hb hr hx
      generalize len s = z at *
      go_enter Try.func55, Try.ntmps55
      go_wp2_with fail
      refine (K.out _).mono ?_
      rintro e w1 ⟨rfl, b1⟩
      have S1 := Lib.hid ((HH.out.below ((Below.refl _ W).alloc (Nat.le_refl _) (.cells #[.int .i64 s.lo, .int .i64 s.hi] 26))).below b1)
      have T1 := Lib.hid ((Blk.new W 26 #[.int .i64 s.lo, .int .i64 s.hi]).below b1 (by simp))
      have hlt : W.heap.size < w1.heap.size := T1.out.lt
      have hg : g < W.heap.size := HH.out.box.lt
      have hh : h < W.heap.size := HH.out.num.lt
      have hgh : g ≠ h := HH.out.gh
      have hgw : g ≠ W.heap.size := by omega
      have hgw1 : g < w1.heap.size := by omega
      have HOWN : Hid ((Value.slice A xs.length c).ownBlock ≠ some g ∧ (Value.slice A xs.length c).ownBlock ≠ some h ∧ (Value.slice A xs.length c).ownBlock ≠ some W.heap.size) := Lib.hid ⟨fun e => (HH.out.own g e).2.1 rfl, fun e => (HH.out.own h e).2.2 rfl, fun e => by have := HH.out.row.lt _ e; omega⟩
      clear b1
      have c0 : w1.cell? ⟨W.heap.size, 0, Option.none⟩ = some (.int .i64 s.lo) := T1.out.cell 0
      have c1 : w1.cell? ⟨W.heap.size, 1, Option.none⟩ = some (.int .i64 s.hi) := T1.out.cell 1
      have c2 : w1.cell? ⟨g, 0, Option.none⟩ = some (.slice A xs.length c) := S1.out.box.cell 0
      have c3 : w1.cell? ⟨h, 0, Option.none⟩ = some (.int .u32 first) := S1.out.num.cell 0
      have n0 := World.new_ne w1 _ c0
      have n2 := World.new_ne w1 _ c2
      have n3 := World.new_ne w1 _ c3
      go_wp2
      refine wp_region_held_drew (S := (fun w' => w'.cell? ⟨W.heap.size, 0, Option.none⟩ = some (.int .i64 s.lo) ∧ w'.cell? ⟨W.heap.size, 1, Option.none⟩ = some (.int .i64 s.hi) ∧ w'.cell? ⟨h, 0, Option.none⟩ = some (.int .u32 first))) (by kernel_rfl) ?_ (fun hHeld => ?_)
      · ((try dsimp only); go_keep)
      refine wpAnyH_take (i := 1) (oi := _) (v := ?_) rfl (by kernel_rfl) (by kernel_rfl) (by kernel_rfl) (fun _ _ _ h => h) (Or.inl ⟨by rfl, ?_⟩) (by assumption) ?_
      rotate_left
      · intro w hSw
        go_simp
        try with_reducible rfl
      (try simp only [Act.put, List.setIfInBounds_toArray, List.set_cons_zero, List.set_cons_succ])
      refine wpAnyH_take (i := 2) (oi := _) (v := ?_) rfl (by kernel_rfl) (by kernel_rfl) (by kernel_rfl) (fun _ _ _ h => h) (Or.inl ⟨by rfl, ?_⟩) (by assumption) ?_
      rotate_left
      · intro w hSw
        go_simp
        try with_reducible rfl
      (try simp only [Act.put, List.setIfInBounds_toArray, List.set_cons_zero, List.set_cons_succ])
      refine wpAnyH_take (i := 3) (oi := _) (v := ?_) rfl (by kernel_rfl) (by kernel_rfl) (by kernel_rfl) (fun _ _ _ h => h) (Or.inl ⟨by rfl, ?_⟩) (by assumption) ?_
      rotate_left
      · intro w hSw
        go_simp
        try with_reducible rfl
      (try simp only [Act.put, List.setIfInBounds_toArray, List.set_cons_zero, List.set_cons_succ])
      refine wpAnyH_take (i := 6) (oi := _) (v := ?_) rfl (by kernel_rfl) (by kernel_rfl) (by kernel_rfl) (fun _ _ _ h => h) (Or.inl ⟨by rfl, ?_⟩) (by assumption) ?_
      rotate_left
      · intro w hSw
        go_simp
        try with_reducible rfl
      (try simp only [Act.put, List.setIfInBounds_toArray, List.set_cons_zero, List.set_cons_succ])
      refine wpAnyH_take (i := 7) (oi := _) (v := ?_) rfl (by kernel_rfl) (by kernel_rfl) (by kernel_rfl) (fun _ _ _ h => h) (Or.inl ⟨by rfl, ?_⟩) (by assumption) ?_
      rotate_left
      · intro w hSw
        go_simp
        try with_reducible rfl
      (try simp only [Act.put, List.setIfInBounds_toArray, List.set_cons_zero, List.set_cons_succ])
      refine wpAnyH_take (i := 8) (oi := _) (v := ?_) rfl (by kernel_rfl) (by kernel_rfl) (by kernel_rfl) (fun _ _ _ h => h) (Or.inl ⟨by rfl, ?_⟩) (by assumption) ?_
      rotate_left
      · intro w hSw
        go_simp
        try with_reducible rfl
      (try simp only [Act.put, List.setIfInBounds_toArray, List.set_cons_zero, List.set_cons_succ])
      refine wpAnyH_ready (rs := [0, 4]) (by kernel_rfl) (by simp) ?_
      refine AllReadyH.cons (o := _) rfl (fun K hK => ?_) ?_
      · go_simp
        refine hK.out _ _ ?_ (fun hHeld => ?_)
        · ((try dsimp only); go_keep)
        clear hK K
        (try simp only [Act.put, List.setIfInBounds_toArray, List.set_cons_zero, List.set_cons_succ])
        refine wpAnyH_ready (rs := [4]) (by kernel_rfl) (by simp) ?_
        refine AllReadyH.cons (o := _) rfl (fun K hK => ?_) AllReadyH.nil
        go_simp
        refine (WL.out _).mono ?_
        rintro e w2 ⟨rfl, rfl⟩
        (try go_wp2_with fail)
        refine hK.out _ _ ?_ (fun hHeld => ?_)
        · ((try dsimp only); go_keep)
        clear hK K
        (try simp only [Act.put, List.setIfInBounds_toArray, List.set_cons_zero, List.set_cons_succ])
        refine wpAnyH_take (i := 5) (oi := _) (v := ?_) rfl (by kernel_rfl) (by kernel_rfl) (by kernel_rfl) (fun _ _ _ h => h) (Or.inl ⟨by rfl, ?_⟩) (by assumption) ?_
        rotate_left
        · intro w hSw
          go_simp
          try with_reducible rfl
        (try simp only [Act.put, List.setIfInBounds_toArray, List.set_cons_zero, List.set_cons_succ])
        refine wpAnyH_ready (rs := [9]) (by kernel_rfl) (by simp) ?_
        refine AllReadyH.cons (o := _) rfl (fun K hK => ?_) AllReadyH.nil
        go_simp
        refine (WH.out _).mono ?_
        rintro e w2 ⟨rfl, rfl⟩
        (try go_wp2_with fail)
        refine hK.out _ _ ?_ (fun hHeld => ?_)
        · ((try dsimp only); go_keep)
        clear hK K
        (try simp only [Act.put, List.setIfInBounds_toArray, List.set_cons_zero, List.set_cons_succ])
        refine wpAnyH_take (i := 10) (oi := _) (v := ?_) rfl (by kernel_rfl) (by kernel_rfl) (by kernel_rfl) (fun _ _ _ h => h) (Or.inl ⟨by rfl, ?_⟩) (by assumption) ?_
        rotate_left
        · intro w hSw
          go_simp
          try with_reducible rfl
        (try simp only [Act.put, List.setIfInBounds_toArray, List.set_cons_zero, List.set_cons_succ])
        refine wpAnyH_take (i := 11) (oi := _) (v := ?_) rfl (by kernel_rfl) (by kernel_rfl) (by kernel_rfl) (fun _ _ _ h => h) (Or.inl ⟨by rfl, ?_⟩) (by assumption) ?_
        rotate_left
        · intro w hSw
          go_simp
          try with_reducible rfl
        (try simp only [Act.put, List.setIfInBounds_toArray, List.set_cons_zero, List.set_cons_succ])
        refine wpAnyH_ready (rs := [12]) (by kernel_rfl) (by simp) ?_
        refine AllReadyH.cons (o := _) rfl (fun K hK => ?_) AllReadyH.nil
        go_simp
        refine hK.out _ _ ?_ (fun hHeld => ?_)
        · ((try dsimp only); go_keep)
        clear hK K
        (try simp only [Act.put, List.setIfInBounds_toArray, List.set_cons_zero, List.set_cons_succ])
        refine wpAnyH_ready (rs := [13]) (by kernel_rfl) (by simp) ?_
        refine AllReadyH.cons (o := _) rfl (fun K hK => ?_) AllReadyH.nil
        refine step_append_row (by rfl) _ _ _ (by rfl) i0 _ 8 Try.underlying23 hi hz0 hz1 hz2 (by decide) (by decide) encK_len encK_one (.slice A xs.length c) xs (by rfl) (by first | exact rowK_drew (rowK_alloc S1.out.row _) | exact rowK_alloc (rowK_drew S1.out.row) _) _ 1 _ [⟨(first + a) % 4294967296, (first + b) % 4294967296⟩] rfl (by rfl) (srcK_one (heap_alloc_new _ _)) (by have := HR.out; unfold maxLen; omega) (by have := HR.out; omega) ?_
        intro v' w' hr ha
        have xg : Blk w' g 23 #[.slice A xs.length c] := (ha.block _ (by simp; omega) HOWN.out.1).trans (by first | exact (S1.out.box.drew.alloc _) | exact (S1.out.box.alloc _).drew)
        have xh : Blk w' h 22 #[.int .u32 first] := (ha.block _ (by simp; omega) HOWN.out.2.1).trans (by first | exact (S1.out.num.drew.alloc _) | exact (S1.out.num.alloc _).drew)
        have xb : Blk w' W.heap.size 26 #[.int .i64 s.lo, .int .i64 s.hi] := (ha.block _ (by simp; omega) HOWN.out.2.2).trans (by first | exact (T1.out.drew.alloc _) | exact (T1.out.alloc _).drew)
        have k0 : w'.cell? ⟨W.heap.size, 0, Option.none⟩ = some (.int .i64 s.lo) := xb.cell 0
        have k1 : w'.cell? ⟨W.heap.size, 1, Option.none⟩ = some (.int .i64 s.hi) := xb.cell 1
        have k2 : w'.cell? ⟨g, 0, Option.none⟩ = some (.slice A xs.length c) := xg.cell 0
        have k3 : w'.cell? ⟨h, 0, Option.none⟩ = some (.int .u32 first) := xh.cell 0
        have kf := xg.frozen
        obtain ⟨A', n', c', rfl⟩ : ∃ A' n' c', v' = .slice A' n' c' := (by obtain ⟨x, y, e, _⟩ := hr.slice; exact ⟨_, _, _, e⟩)
        have HF : Hid (PutSt w (w'.setCell ⟨g, 0, Option.none⟩ (.slice A' n' c')) g h first (xs ++ [⟨(first + a) % 4294967296, (first + b) % 4294967296⟩]) (.slice A' n' c')) := by
          first
            | exact Lib.hid ((S1.out.drew.below ((Below.refl _ _).alloc (Nat.le_refl _) _)).app hr ha)
            | exact Lib.hid ((S1.out.below ((Below.refl _ _).alloc (Nat.le_refl _) _)).drew.app hr ha)
        clear hr ha xg xh xb
        refine hK.out _ _ ?_ (fun hHeld => ?_)
        · ((try dsimp only); go_keep)
        clear hK K
        (try simp only [Act.put, List.setIfInBounds_toArray, List.set_cons_zero, List.set_cons_succ])
        refine wpAnyH_ready (rs := [14]) (by kernel_rfl) (by simp) ?_
        refine AllReadyH.cons (o := _) rfl (fun K hK => ?_) AllReadyH.nil
        go_simp
        refine hK.out _ _ ?_ (fun hHeld => ?_)
        · ((try dsimp only); go_keep)
        clear hK K
        (try simp only [Act.put, List.setIfInBounds_toArray, List.set_cons_zero, List.set_cons_succ])
        refine wpAnyH_done (by kernel_rfl) ?_ _
        go_wp2
        go_end0
        exact ⟨rfl, _, HF.out⟩
      refine AllReadyH.cons (o := _) rfl (fun K hK => ?_) AllReadyH.nil
      go_simp
      refine (WL.out _).mono ?_
      rintro e w2 ⟨rfl, rfl⟩
      (try go_wp2_with fail)
      refine hK.out _ _ ?_ (fun hHeld => ?_)
      · ((try dsimp only); go_keep)
      clear hK K
      (try simp only [Act.put, List.setIfInBounds_toArray, List.set_cons_zero, List.set_cons_succ])
      refine wpAnyH_take (i := 5) (oi := _) (v := ?_) rfl (by kernel_rfl) (by kernel_rfl) (by kernel_rfl) (fun _ _ _ h => h) (Or.inl ⟨by rfl, ?_⟩) (by assumption) ?_
      rotate_left
      · intro w hSw
        go_simp
        try with_reducible rfl
      (try simp only [Act.put, List.setIfInBounds_toArray, List.set_cons_zero, List.set_cons_succ])
      refine wpAnyH_ready (rs := [0, 9]) (by kernel_rfl) (by simp) ?_
      refine AllReadyH.cons (o := _) rfl (fun K hK => ?_) ?_
      · go_simp
        refine hK.out _ _ ?_ (fun hHeld => ?_)
        · ((try dsimp only); go_keep)
        clear hK K
        (try simp only [Act.put, List.setIfInBounds_toArray, List.set_cons_zero, List.set_cons_succ])
        refine wpAnyH_ready (rs := [9]) (by kernel_rfl) (by simp) ?_
        refine AllReadyH.cons (o := _) rfl (fun K hK => ?_) AllReadyH.nil
        go_simp
        refine (WH.out _).mono ?_
        rintro e w2 ⟨rfl, rfl⟩
        (try go_wp2_with fail)
        refine hK.out _ _ ?_ (fun hHeld => ?_)
        · ((try dsimp only); go_keep)
        clear hK K
        (try simp only [Act.put, List.setIfInBounds_toArray, List.set_cons_zero, List.set_cons_succ])
        refine wpAnyH_take (i := 10) (oi := _) (v := ?_) rfl (by kernel_rfl) (by kernel_rfl) (by kernel_rfl) (fun _ _ _ h => h) (Or.inl ⟨by rfl, ?_⟩) (by assumption) ?_
        rotate_left
        · intro w hSw
          go_simp
          try with_reducible rfl
        (try simp only [Act.put, List.setIfInBounds_toArray, List.set_cons_zero, List.set_cons_succ])
        refine wpAnyH_take (i := 11) (oi := _) (v := ?_) rfl (by kernel_rfl) (by kernel_rfl) (by kernel_rfl) (fun _ _ _ h => h) (Or.inl ⟨by rfl, ?_⟩) (by assumption) ?_
        rotate_left
        · intro w hSw
          go_simp
          try with_reducible rfl
        (try simp only [Act.put, List.setIfInBounds_toArray, List.set_cons_zero, List.set_cons_succ])
        refine wpAnyH_ready (rs := [12]) (by kernel_rfl) (by simp) ?_
        refine AllReadyH.cons (o := _) rfl (fun K hK => ?_) AllReadyH.nil
        go_simp
        refine hK.out _ _ ?_ (fun hHeld => ?_)
        · ((try dsimp only); go_keep)
        clear hK K
        (try simp only [Act.put, List.setIfInBounds_toArray, List.set_cons_zero, List.set_cons_succ])
        refine wpAnyH_ready (rs := [13]) (by kernel_rfl) (by simp) ?_
        refine AllReadyH.cons (o := _) rfl (fun K hK => ?_) AllReadyH.nil
        refine step_append_row (by rfl) _ _ _ (by rfl) i0 _ 8 Try.underlying23 hi hz0 hz1 hz2 (by decide) (by decide) encK_len encK_one (.slice A xs.length c) xs (by rfl) (by first | exact rowK_drew (rowK_alloc S1.out.row _) | exact rowK_alloc (rowK_drew S1.out.row) _) _ 1 _ [⟨(first + a) % 4294967296, (first + b) % 4294967296⟩] rfl (by rfl) (srcK_one (heap_alloc_new _ _)) (by have := HR.out; unfold maxLen; omega) (by have := HR.out; omega) ?_
        intro v' w' hr ha
        have xg : Blk w' g 23 #[.slice A xs.length c] := (ha.block _ (by simp; omega) HOWN.out.1).trans (by first | exact (S1.out.box.drew.alloc _) | exact (S1.out.box.alloc _).drew)
        have xh : Blk w' h 22 #[.int .u32 first] := (ha.block _ (by simp; omega) HOWN.out.2.1).trans (by first | exact (S1.out.num.drew.alloc _) | exact (S1.out.num.alloc _).drew)
        have xb : Blk w' W.heap.size 26 #[.int .i64 s.lo, .int .i64 s.hi] := (ha.block _ (by simp; omega) HOWN.out.2.2).trans (by first | exact (T1.out.drew.alloc _) | exact (T1.out.alloc _).drew)
        have k0 : w'.cell? ⟨W.heap.size, 0, Option.none⟩ = some (.int .i64 s.lo) := xb.cell 0
        have k1 : w'.cell? ⟨W.heap.size, 1, Option.none⟩ = some (.int .i64 s.hi) := xb.cell 1
        have k2 : w'.cell? ⟨g, 0, Option.none⟩ = some (.slice A xs.length c) := xg.cell 0
        have k3 : w'.cell? ⟨h, 0, Option.none⟩ = some (.int .u32 first) := xh.cell 0
        have kf := xg.frozen
        obtain ⟨A', n', c', rfl⟩ : ∃ A' n' c', v' = .slice A' n' c' := (by obtain ⟨x, y, e, _⟩ := hr.slice; exact ⟨_, _, _, e⟩)
        have HF : Hid (PutSt w (w'.setCell ⟨g, 0, Option.none⟩ (.slice A' n' c')) g h first (xs ++ [⟨(first + a) % 4294967296, (first + b) % 4294967296⟩]) (.slice A' n' c')) := by
          first
            | exact Lib.hid ((S1.out.drew.below ((Below.refl _ _).alloc (Nat.le_refl _) _)).app hr ha)
            | exact Lib.hid ((S1.out.below ((Below.refl _ _).alloc (Nat.le_refl _) _)).drew.app hr ha)
        clear hr ha xg xh xb
        refine hK.out _ _ ?_ (fun hHeld => ?_)
        · ((try dsimp only); go_keep)
        clear hK K
        (try simp only [Act.put, List.setIfInBounds_toArray, List.set_cons_zero, List.set_cons_succ])
        refine wpAnyH_ready (rs := [14]) (by kernel_rfl) (by simp) ?_
        refine AllReadyH.cons (o := _) rfl (fun K hK => ?_) AllReadyH.nil
        go_simp
        refine hK.out _ _ ?_ (fun hHeld => ?_)
        · ((try dsimp only); go_keep)
        clear hK K
        (try simp only [Act.put, List.setIfInBounds_toArray, List.set_cons_zero, List.set_cons_succ])
        refine wpAnyH_done (by kernel_rfl) ?_ _
        go_wp2
        go_end0
        exact ⟨rfl, _, HF.out⟩
      refine AllReadyH.cons (o := _) rfl (fun K hK => ?_) AllReadyH.nil
      go_simp
      refine (WH.out _).mono ?_
      rintro e w2 ⟨rfl, rfl⟩
      (try go_wp2_with fail)
      refine hK.out _ _ ?_ (fun hHeld => ?_)
      · ((try dsimp only); go_keep)
      clear hK K
      (try simp only [Act.put, List.setIfInBounds_toArray, List.set_cons_zero, List.set_cons_succ])
      refine wpAnyH_take (i := 10) (oi := _) (v := ?_) rfl (by kernel_rfl) (by kernel_rfl) (by kernel_rfl) (fun _ _ _ h => h) (Or.inl ⟨by rfl, ?_⟩) (by assumption) ?_
      rotate_left
      · intro w hSw
        go_simp
        try with_reducible rfl
      (try simp only [Act.put, List.setIfInBounds_toArray, List.set_cons_zero, List.set_cons_succ])
      refine wpAnyH_take (i := 11) (oi := _) (v := ?_) rfl (by kernel_rfl) (by kernel_rfl) (by kernel_rfl) (fun _ _ _ h => h) (Or.inl ⟨by rfl, ?_⟩) (by assumption) ?_
      rotate_left
      · intro w hSw
        go_simp
        try with_reducible rfl
      (try simp only [Act.put, List.setIfInBounds_toArray, List.set_cons_zero, List.set_cons_succ])
      refine wpAnyH_ready (rs := [0, 12]) (by kernel_rfl) (by simp) ?_
      refine AllReadyH.cons (o := _) rfl (fun K hK => ?_) ?_
      · go_simp
        refine hK.out _ _ ?_ (fun hHeld => ?_)
        · ((try dsimp only); go_keep)
        clear hK K
        (try simp only [Act.put, List.setIfInBounds_toArray, List.set_cons_zero, List.set_cons_succ])
        refine wpAnyH_ready (rs := [12]) (by kernel_rfl) (by simp) ?_
        refine AllReadyH.cons (o := _) rfl (fun K hK => ?_) AllReadyH.nil
        go_simp
        refine hK.out _ _ ?_ (fun hHeld => ?_)
        · ((try dsimp only); go_keep)
        clear hK K
        (try simp only [Act.put, List.setIfInBounds_toArray, List.set_cons_zero, List.set_cons_succ])
        refine wpAnyH_ready (rs := [13]) (by kernel_rfl) (by simp) ?_
        refine AllReadyH.cons (o := _) rfl (fun K hK => ?_) AllReadyH.nil
        refine step_append_row (by rfl) _ _ _ (by rfl) i0 _ 8 Try.underlying23 hi hz0 hz1 hz2 (by decide) (by decide) encK_len encK_one (.slice A xs.length c) xs (by rfl) (by first | exact rowK_drew (rowK_alloc S1.out.row _) | exact rowK_alloc (rowK_drew S1.out.row) _) _ 1 _ [⟨(first + a) % 4294967296, (first + b) % 4294967296⟩] rfl (by rfl) (srcK_one (heap_alloc_new _ _)) (by have := HR.out; unfold maxLen; omega) (by have := HR.out; omega) ?_
        intro v' w' hr ha
        have xg : Blk w' g 23 #[.slice A xs.length c] := (ha.block _ (by simp; omega) HOWN.out.1).trans (by first | exact (S1.out.box.drew.alloc _) | exact (S1.out.box.alloc _).drew)
        have xh : Blk w' h 22 #[.int .u32 first] := (ha.block _ (by simp; omega) HOWN.out.2.1).trans (by first | exact (S1.out.num.drew.alloc _) | exact (S1.out.num.alloc _).drew)
        have xb : Blk w' W.heap.size 26 #[.int .i64 s.lo, .int .i64 s.hi] := (ha.block _ (by simp; omega) HOWN.out.2.2).trans (by first | exact (T1.out.drew.alloc _) | exact (T1.out.alloc _).drew)
        have k0 : w'.cell? ⟨W.heap.size, 0, Option.none⟩ = some (.int .i64 s.lo) := xb.cell 0
        have k1 : w'.cell? ⟨W.heap.size, 1, Option.none⟩ = some (.int .i64 s.hi) := xb.cell 1
        have k2 : w'.cell? ⟨g, 0, Option.none⟩ = some (.slice A xs.length c) := xg.cell 0
        have k3 : w'.cell? ⟨h, 0, Option.none⟩ = some (.int .u32 first) := xh.cell 0
        have kf := xg.frozen
        obtain ⟨A', n', c', rfl⟩ : ∃ A' n' c', v' = .slice A' n' c' := (by obtain ⟨x, y, e, _⟩ := hr.slice; exact ⟨_, _, _, e⟩)
        have HF : Hid (PutSt w (w'.setCell ⟨g, 0, Option.none⟩ (.slice A' n' c')) g h first (xs ++ [⟨(first + a) % 4294967296, (first + b) % 4294967296⟩]) (.slice A' n' c')) := by
          first
            | exact Lib.hid ((S1.out.drew.below ((Below.refl _ _).alloc (Nat.le_refl _) _)).app hr ha)
            | exact Lib.hid ((S1.out.below ((Below.refl _ _).alloc (Nat.le_refl _) _)).drew.app hr ha)
        clear hr ha xg xh xb
        refine hK.out _ _ ?_ (fun hHeld => ?_)
        · ((try dsimp only); go_keep)
        clear hK K
        (try simp only [Act.put, List.setIfInBounds_toArray, List.set_cons_zero, List.set_cons_succ])
        refine wpAnyH_ready (rs := [14]) (by kernel_rfl) (by simp) ?_
        refine AllReadyH.cons (o := _) rfl (fun K hK => ?_) AllReadyH.nil
        go_simp
        refine hK.out _ _ ?_ (fun hHeld => ?_)
        · ((try dsimp only); go_keep)
        clear hK K
        (try simp only [Act.put, List.setIfInBounds_toArray, List.set_cons_zero, List.set_cons_succ])
        refine wpAnyH_done (by kernel_rfl) ?_ _
        go_wp2
        go_end0
        exact ⟨rfl, _, HF.out⟩
      refine AllReadyH.cons (o := _) rfl (fun K hK => ?_) AllReadyH.nil
      go_simp
      refine hK.out _ _ ?_ (fun hHeld => ?_)
      · ((try dsimp only); go_keep)
      clear hK K
      (try simp only [Act.put, List.setIfInBounds_toArray, List.set_cons_zero, List.set_cons_succ])
      refine wpAnyH_ready (rs := [0]) (by kernel_rfl) (by simp) ?_
      refine AllReadyH.cons (o := _) rfl (fun K hK => ?_) AllReadyH.nil
      go_simp
      refine hK.out _ _ ?_ (fun hHeld => ?_)
      · ((try dsimp only); go_keep)
      clear hK K
      (try simp only [Act.put, List.setIfInBounds_toArray, List.set_cons_zero, List.set_cons_succ])
      refine wpAnyH_ready (rs := [13]) (by kernel_rfl) (by simp) ?_
      refine AllReadyH.cons (o := _) rfl (fun K hK => ?_) AllReadyH.nil
      refine step_append_row (by rfl) _ _ _ (by rfl) i0 _ 8 Try.underlying23 hi hz0 hz1 hz2 (by decide) (by decide) encK_len encK_one (.slice A xs.length c) xs (by rfl) (by first | exact rowK_drew (rowK_alloc S1.out.row _) | exact rowK_alloc (rowK_drew S1.out.row) _) _ 1 _ [⟨(first + a) % 4294967296, (first + b) % 4294967296⟩] rfl (by rfl) (srcK_one (heap_alloc_new _ _)) (by have := HR.out; unfold maxLen; omega) (by have := HR.out; omega) ?_
      intro v' w' hr ha
      have xg : Blk w' g 23 #[.slice A xs.length c] := (ha.block _ (by simp; omega) HOWN.out.1).trans (by first | exact (S1.out.box.drew.alloc _) | exact (S1.out.box.alloc _).drew)
      have xh : Blk w' h 22 #[.int .u32 first] := (ha.block _ (by simp; omega) HOWN.out.2.1).trans (by first | exact (S1.out.num.drew.alloc _) | exact (S1.out.num.alloc _).drew)
      have xb : Blk w' W.heap.size 26 #[.int .i64 s.lo, .int .i64 s.hi] := (ha.block _ (by simp; omega) HOWN.out.2.2).trans (by first | exact (T1.out.drew.alloc _) | exact (T1.out.alloc _).drew)
      have k0 : w'.cell? ⟨W.heap.size, 0, Option.none⟩ = some (.int .i64 s.lo) := xb.cell 0
      have k1 : w'.cell? ⟨W.heap.size, 1, Option.none⟩ = some (.int .i64 s.hi) := xb.cell 1
      have k2 : w'.cell? ⟨g, 0, Option.none⟩ = some (.slice A xs.length c) := xg.cell 0
      have k3 : w'.cell? ⟨h, 0, Option.none⟩ = some (.int .u32 first) := xh.cell 0
      have kf := xg.frozen
      obtain ⟨A', n', c', rfl⟩ : ∃ A' n' c', v' = .slice A' n' c' := (by obtain ⟨x, y, e, _⟩ := hr.slice; exact ⟨_, _, _, e⟩)
      have HF : Hid (PutSt w (w'.setCell ⟨g, 0, Option.none⟩ (.slice A' n' c')) g h first (xs ++ [⟨(first + a) % 4294967296, (first + b) % 4294967296⟩]) (.slice A' n' c')) := by
        first
          | exact Lib.hid ((S1.out.drew.below ((Below.refl _ _).alloc (Nat.le_refl _) _)).app hr ha)
          | exact Lib.hid ((S1.out.below ((Below.refl _ _).alloc (Nat.le_refl _) _)).drew.app hr ha)
      clear hr ha xg xh xb
      refine hK.out _ _ ?_ (fun hHeld => ?_)
      · ((try dsimp only); go_keep)
      clear hK K
      (try simp only [Act.put, List.setIfInBounds_toArray, List.set_cons_zero, List.set_cons_succ])
      refine wpAnyH_ready (rs := [14]) (by kernel_rfl) (by simp) ?_
      refine AllReadyH.cons (o := _) rfl (fun K hK => ?_) AllReadyH.nil
      go_simp
      refine hK.out _ _ ?_ (fun hHeld => ?_)
      · ((try dsimp only); go_keep)
      clear hK K
      (try simp only [Act.put, List.setIfInBounds_toArray, List.set_cons_zero, List.set_cons_succ])
      refine wpAnyH_done (by kernel_rfl) ?_ _
      go_wp2
      go_end0
      exact ⟨rfl, _, HF.out⟩
    · have HP : Hid (putOf first xs s = xs) := Lib.hid (by unfold putOf; rw [if_neg (fun h => hr h.2)])
      rw [HP.out]
      have hr2 : ¬ (xs.length : Int) < 4 := by omega
      clear H HP hr
      generalize len s = z at *
      go_enter Try.func55, Try.ntmps55
      go_wp2_with fail
      refine (K.out _).mono ?_
      rintro e w1 ⟨rfl, b1⟩
      have S1 := Lib.hid ((HH.out.below ((Below.refl _ W).alloc (Nat.le_refl _) (.cells #[.int .i64 s.lo, .int .i64 s.hi] 26))).below b1)
      clear b1
      have c2 : w1.cell? ⟨g, 0, Option.none⟩ = some (.slice A xs.length c) := S1.out.box.cell 0
      go_wp2
      go_end0
      exact ⟨rfl, _, S1.out⟩
  · have HP : Hid (putOf first xs s = xs) := Lib.hid (by unfold putOf; rw [if_neg (fun h => hl h.1)])
    rw [HP.out]
    clear H HP
    generalize len s = z at *
    go_enter Try.func55, Try.ntmps55
    go_wp2_with fail
    refine (K.out _).mono ?_
    rintro e w1 ⟨rfl, b1⟩
    have S1 := Lib.hid ((HH.out.below ((Below.refl _ W).alloc (Nat.le_refl _) (.cells #[.int .i64 s.lo, .int .i64 s.hi] 26))).below b1)
    clear b1
    go_wp2
    go_end0
    exact ⟨rfl, _, S1.out⟩
/-- Blocks of a call's own. -/
def Makes (w : World) (xs : List Block) (e : Ending) (w' : World) : Prop := ∃ A n c, e = .returned (.slice A n c) ∧ RowOf 43 2 encK w' (.slice A n c) xs ∧ n = xs.length ∧ n ≤ c ∧ (∀ b, (Value.slice A n c).ownBlock = some b → w.heap.size ≤ b) ∧ Below w.heap.size w w'
theorem rowK_len {w : World} {A : Option Addr} {n c : Nat} {xs : List Block} (h : RowOf 43 2 encK w (.slice A n c) xs) : n = xs.length ∧ n ≤ c := by
  obtain ⟨A', cap, e, hc⟩ := h.slice
  injection e with e1 e2 e3
  subst e1 e2 e3
  exact ⟨rfl, hc⟩
theorem put_new (w : World) (first : Int) (s : Span) : PutSt w (((w.alloc (.cells #[.int .u32 first] 22)).alloc (.cells #[.int .i64 s.lo, .int .i64 s.hi] 26)).alloc (.cells #[.slice Option.none 0 0] 23)) (w.heap.size + 1 + 1) w.heap.size first [] (.slice Option.none 0 0) := by
  have h2 := Blk.new ((w.alloc (.cells #[.int .u32 first] 22)).alloc (.cells #[.int .i64 s.lo, .int .i64 s.hi] 26)) 23 #[.slice Option.none 0 0]
  simp only [World.size_alloc] at h2
  exact ⟨h2, ((Blk.new w 22 _).alloc _).alloc _, .inl ⟨rfl, rfl⟩, fun b e => by simp [Value.ownBlock] at e, (((Below.refl _ w).alloc (Nat.le_refl _) _).alloc (by simp) _).alloc (by simp; omega) _, by omega, Nat.le_refl _, by omega⟩
theorem blocks_len (first : Int) : ∀ (l : List Span) (xs : List Block), xs.length ≤ 4 → (l.foldl (putOf first) xs).length ≤ 4
  | [], _, h => h
  | s :: l, xs, h => blocks_len first l _ (putOf_len h)
set_option maxRecDepth 100000 in
set_option maxHeartbeats 4000000 in
theorem blocks_calls (first : Int) (d : Span) (l : List Span) (A : Option Addr) (c : Nat) (w : World) (f0 : 0 ≤ first) (f1 : first < 4294967296) (hn : l.length ≤ maxLen) (hr : Reps w A 2 encS l) :
    Calls Try.prog 20 #[.int .u32 first, .agg #[.int .i64 d.lo, .int .i64 d.hi], .slice A l.length c] w (Makes w (blocksOf first (d :: l))) := by
  unfold maxLen at hn
  have R := Lib.hid hr
  have P0 := Lib.hid (put_new w first d)
  have D0 : At2 (((w.alloc (.cells #[.int .u32 first] 22)).alloc (.cells #[.int .i64 d.lo, .int .i64 d.hi] 26)).alloc (.cells #[.slice Option.none 0 0] 23)) (w.heap.size + 1) d := at2_alloc (at2_new (by simp)) _
  clear hr
  go_enter Try.func20, Try.ntmps20
  go_wp2_with fail
  clear D0
  refine (put_calls d w _ _ _ first [] _ P0.out f0 f1 (by simp)).mono ?_
  rintro e w1 ⟨rfl, v1, P1⟩
  have HP1 : Hid (∃ v, PutSt w w1 (w.heap.size + 1 + 1) w.heap.size first ((l.take 0).foldl (putOf first) (putOf first [] d)) v) := Lib.hid ⟨v1, by simpa using P1⟩
  clear P1 P0
  go_wp2
  go_loopw [17] (fun i wr => ∃ k : Nat, k ≤ l.length ∧ i = .int .i64 k ∧ Hid (∃ v, PutSt w wr (w.heap.size + 1 + 1) w.heap.size first ((l.take k).foldl (putOf first) (putOf first [] d)) v)) (fun i _ => l.length - (intOf i).toNat)
  case atStart => exact ⟨0, by omega, rfl, HP1⟩
  case round =>
    obtain ⟨k, hk, rfl, hP⟩ := hrel
    clear HP1
    obtain ⟨v, P⟩ := hP.out
    by_cases hlt : k < l.length
    · obtain ⟨s, hs⟩ : ∃ s, l[k]? = some s := ⟨_, List.getElem?_eq_getElem hlt⟩
      obtain ⟨ad, rfl, had, hc⟩ := (R.out.below P.bel) k s hs
      have c0 : wr.cell? (ad.add (k * 2)) = some (.int .i64 s.lo) := hc 0 _ rfl
      have c1 : wr.cell? ⟨(ad.add (k * 2)).block, (ad.add (k * 2)).off + 1, Option.none⟩ = some (.int .i64 s.hi) := (add_next ad (k * 2) 1 (by omega)) ▸ hc 1 _ rfl
      have htk : l.take (k + 1) = l.take k ++ [s] := by rw [List.take_succ_eq_append_getElem hlt, (List.getElem?_eq_some_iff.1 hs).2]
      have HT : Hid ((l.take (k + 1)).foldl (putOf first) (putOf first [] d) = putOf first ((l.take k).foldl (putOf first) (putOf first [] d)) s) := Lib.hid (by rw [htk, List.foldl_append]; rfl)
      have hb := blocks_len first (l.take k) (putOf first [] d) (putOf_len (by simp))
      generalize (l.take k).foldl (putOf first) (putOf first [] d) = xs at *
      have PP := Lib.hid (put_calls s w _ _ _ first xs v (P.below ((Below.refl _ wr).alloc (Nat.le_refl _) (.cells #[.int .i64 s.lo, .int .i64 s.hi] 26))) f0 f1 hb)
      clear hP P hc htk hs hb
      go_wp2_with fail
      refine PP.out.mono ?_
      rintro e w3 ⟨rfl, v3, P3⟩
      have HP3 := Lib.hid P3
      clear P3
      go_wp2
      go_roundw
      case rel => exact ⟨k + 1, by omega, by go_num, Lib.hid ⟨v3, by rw [HT.out]; exact HP3.out⟩⟩
      case measure => simp [intOf]; omega
    · obtain rfl : k = l.length := by omega
      rw [List.take_of_length_le (Nat.le_refl _)] at P
      obtain ⟨A', n', c', rfl⟩ : ∃ A' n' c', v = .slice A' n' c' := by obtain ⟨x, y, e, _⟩ := P.row.slice; exact ⟨_, _, _, e⟩
      have HP := Lib.hid P
      have x0 : wr.cell? ⟨w.heap.size + 1 + 1, 0, Option.none⟩ = some (.slice A' n' c') := P.box.cell 0
      clear hP P hlt
      go_wp2
      go_ret
      obtain ⟨e1, e2⟩ := rowK_len HP.out.row
      exact ⟨A', n', c', rfl, HP.out.row, e1, e2, fun b e => (HP.out.own b e).1, HP.out.bel⟩
end Go.Proofs.Ytaokiocpfpdmkaa.Dups
