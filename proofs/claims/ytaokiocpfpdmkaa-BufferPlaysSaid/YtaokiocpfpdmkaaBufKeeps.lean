/- Chapter 21 (buffer): what was written is read (law 11). -/
import Derived.Test.YtaokiocpfpdmkaaBufKnown
import Derived.Test.YtaokiocpfpdmkaaBufMath
set_option linter.unusedSimpArgs false
set_option linter.unusedVariables false
attribute [local go_sem ↓] Go.wp_at_zero Go.wp_at_succ
namespace Go.Proofs.Ytaokiocpfpdmkaa.Buff
open Go.BigFrame Go.RowKit Go.OpenShut Go.Proofs.Ytaokiocpfpdmkaa.Aid Go.Proofs.Ytaokiocpfpdmkaa.Spans
open Led (Kept kept_refl kept_set kept_drewN kept_drew kept_below below_kept)
theorem run_part (a : Option Addr) (len cap : Nat) (l h : Int) (w : World) (h0 : 0 ≤ l) (h1 : l ≤ h) (h2 : h ≤ cap) :
    (Instr.slice 60 (.slice a len cap) (some (.int .i64 l)) (some (.int .i64 h)) Option.none).run Try.prog w = .ok (.slice (Aim a cap l.toNat) (h.toNat - l.toNat) (cap - l.toNat)) w := by
  rw [run_slice_lh (P := Try.prog) w 60 a len cap (by kernel_rfl) .i64 .i64 l h h0 h1 h2]
  have he : Try.prog.elem 60 = 5 := by kernel_rfl
  simp [he, sliced, Aim, go_sem]
attribute [local go_sem high] run_from run_part
theorem reps_take {w : World} {a : Option Addr} {xs : List Int} (k : Nat) (h : Reps w a 1 encB xs) : Reps w a 1 encB (xs.take k) := by
  intro i x hx
  refine h i x ?_
  have hi : i < k := by
    have := (List.getElem?_eq_some_iff.1 hx).1
    rw [List.length_take] at this
    omega
  rwa [List.getElem?_take_of_lt hi] at hx
/-- A byte is stored into a row. -/
theorem row_put {w : World} {b n c : Nat} {zs : List Int} (h : RowOf 5 1 encB w (.slice (some ⟨b, 0, Option.none⟩) n c) zs) (k : Nat) (x : Int) (hk : k < zs.length) :
    RowOf 5 1 encB (w.setCell ⟨b, k, Option.none⟩ (enc8 x)) (.slice (some ⟨b, 0, Option.none⟩) n c) (zs.set k x) := by
  obtain ⟨h0, _⟩ | ⟨b', cap, cur, h0, h1, h2, h3, h4, h5⟩ := h
  · cases h0
  injection h0 with h0 h6 h7
  obtain rfl : b = b' := by simpa using h0
  subst h6 h7
  have hb : Blk w b 5 cur := h3
  refine .inr ⟨b, c, cur.setIfInBounds k (enc8 x), by rw [List.length_set], by rw [List.length_set]; exact h1, h2, hb.set_ k _, by simpa using h4, ?_⟩
  rw [List.length_set, Array.toList_setIfInBounds, List.take_set, h5, flatB, flatB, List.map_set]
theorem row_frozen {w : World} {b n c : Nat} {zs : List Int} (h : RowOf 5 1 encB w (.slice (some ⟨b, 0, Option.none⟩) n c) zs) (i : Nat) : w.frozen? ⟨b, i, Option.none⟩ = false := by
  obtain ⟨h0, _⟩ | ⟨b', cap, cur, h0, h1, h2, h3, h4, h5⟩ := h
  · cases h0
  injection h0 with h0 h6 h7
  obtain rfl : b = b' := by simpa using h0
  exact Blk.frozen (cs := cur) (t := 5) h3 i
/-- What a loop that turns a row's bytes carries. -/
structure Bump (w wr : World) (g rb : Nat) (b : Buf) (v : Value) (zs : List Int) : Prop where
  row : RowOf 5 1 encB wr v zs
  own : ∀ k, v.ownBlock = some k → w.heap.size ≤ k ∧ k ≠ g ∧ k ≠ rb
  buf : IsBuf wr g rb b
  bel : Below w.heap.size w wr
theorem bump_set {w wr : World} {g rb mb n c : Nat} {b : Buf} {zs : List Int} (h : Bump w wr g rb b (.slice (some ⟨mb, 0, Option.none⟩) n c) zs) (k : Nat) (x : Int) (hk : k < zs.length) :
    Bump w (wr.setCell ⟨mb, k, Option.none⟩ (.int .u8 x)) g rb b (.slice (some ⟨mb, 0, Option.none⟩) n c) (zs.set k x) := by
  obtain ⟨o1, o2, o3⟩ := h.own mb (by simp [Value.ownBlock])
  refine ⟨row_put h.row k x hk, h.own, ⟨h.buf.box.far (p := ⟨mb, k, Option.none⟩) (Ne.symm o2) _, h.buf.ring.same (fun j e => Below.heap_setCell _ _ _ j (fun e2 => ?_)), h.buf.ne, h.buf.ok⟩, h.bel.setCell o1 _⟩
  have e3 : rb = j := by simpa [slc, Value.ownBlock] using e
  exact o3 (by rw [e3]; exact e2.symm)
/-- The second write: it fits or it does not. -/
def Second (w : World) (g rb : Nat) (f : Int) (m : Nat) (B q : List Int) (more : Bool) (e : Ending) (w' : World) : Prop :=
  ∃ r b2, e = .returned (.int .i64 r) ∧ (r == 0) = more ∧ IsBuf w' g rb b2 ∧ Holds b2 f m (B ++ if more then q else []) ∧ Kept w w' g (slc rb b2)
theorem second_calls (g rb : Nat) (b : Buf) (f : Int) (m : Nat) (B q : List Int) (D : Option Addr) (d : Nat) (w : World) (h : IsBuf w g rb b) (hh : Holds b f m B) (hd : q.length ≤ d) (hR : Reps w D 1 encB q) (hne : q ≠ [] → ∀ a, D = some a → a.block ≠ rb) (h2 : f ≤ 65536) (hm : m ≤ 65536) :
    Calls Try.prog 38 #[.pointer (some ⟨g, 0, Option.none⟩), .slice D q.length d] w (Second w g rb f m B q (decide ((q.length : Int) ≤ (m : Int) - B.length))) := by
  have e1 := hh.hu
  have e2 := hh.hf
  have e3 := hh.hm
  have e4 := h.ok.u3
  by_cases hf : (q.length : Int) ≤ (m : Int) - B.length
  · rw [decide_eq_true hf]
    refine (write_ok g rb b q D d w h hd hR hne (by omega) (by omega)).mono ?_
    rintro e w1 ⟨rfl, h1, k1⟩
    exact ⟨0, _, rfl, rfl, h1, by simpa using holds_write hh h.ok q (by omega), k1⟩
  · rw [decide_eq_false hf]
    refine (write_full g rb b D q.length d w h (by omega)).mono ?_
    rintro e w1 ⟨rfl, n, rfl⟩
    exact ⟨4, b, rfl, rfl, h.drewN n, by simpa using hh, kept_drewN (kept_refl _ _ _) _⟩
set_option maxRecDepth 100000 in
set_option maxHeartbeats 16000000 in
theorem keeps_walk (M cu fr : Int) (A D : Option Addr) (c d : Nat) (p q : List Int) (w : World) (m0 : 0 ≤ M) (m1 : M ≤ 65535) (u0 : 0 ≤ cu) (u1 : cu ≤ 65535) (f0 : 0 ≤ fr) (f1 : fr ≤ 65535)
    (hp : p.length ≤ maxLen) (hq : q.length ≤ maxLen) (hc : p.length ≤ c) (hd : q.length ≤ d) (hA : A = Option.none → c = 0) (hD : D = Option.none → d = 0) (hRp : Reps w A 1 encB p) (hRq : Reps w D 1 encB q) :
    Calls Try.prog 11 #[.int .u16 M, .slice A p.length c, .slice D q.length d, .int .u16 cu, .int .u16 fr] w (Gives w (.bool true)) := by
  obtain ⟨i0, hi, hz0, hz1, hz2⟩ := info_parts info5
  obtain ⟨m, hm⟩ : ∃ m : Nat, 1 + M = m := ⟨(1 + M).toNat, by omega⟩
  have hm1 : 1 ≤ m := by omega
  have hm2 : m ≤ 65536 := by omega
  have s0 : IntKind.i64.wrap M = M := IntWalk.i64_in _ (by omega)
  have s1 : IntKind.i64.wrap (1 + M) = (m : Int) := by rw [hm]; exact IntWalk.i64_in _ (by omega)
  have s2 : IntKind.i64.wrap fr = fr := IntWalk.i64_in _ (by omega)
  have s3 : IntKind.i64.wrap cu = cu := IntWalk.i64_in _ (by omega)
  unfold maxLen at hp hq
  have RP := Lib.hid hRp
  have RQ := Lib.hid hRq
  have N := Lib.hid (fun w1 => new_calls 0 m w1 (by decide) (by decide) hm1 hm2)
  clear hRp hRq
  have HM := Lib.hid hm
  clear hm m0 m1
  go_enter Try.func11, Try.ntmps11
  go_wp2_with fail
  refine (known_calls w).mono ?_
  rintro e w1 ⟨rfl, b1⟩
  have B1 := Lib.hid b1
  clear b1
  go_wp2_with fail
  refine (N.out w1).mono ?_
  rintro e w2 ⟨g, rb, rfl, h2, g2, r2, b2⟩
  have gB : w.heap.size ≤ g := Nat.le_trans B1.out.size g2
  have rB : w.heap.size ≤ rb := Nat.le_trans B1.out.size r2
  have B2 := Lib.hid (below_then B1.out B1.out.size b2)
  have H2 := Lib.hid h2
  clear b2 h2 g2 r2 N
  by_cases hfit : (p.length : Int) ≤ m
  case neg =>
    go_wp2_with fail
    refine (known_calls w2).mono ?_
    rintro e w3 ⟨rfl, b3⟩
    have B3 := Lib.hid (below_then B2.out B2.out.size b3)
    clear b3
    go_wp2
    go_ret
    exact ⟨rfl, B3.out⟩
  case pos =>
  obtain ⟨n, hn⟩ : ∃ n, p.length = n := ⟨_, rfl⟩
  have HN := Lib.hid hn
  rw [hn] at hfit hp hc ⊢
  clear hn
  have hn2 : n ≤ 65536 := by omega
  go_wp2_with (at_builtin; refine wpList_append_any (by rfl) _ _ 60 (by rfl) i0 _ 1 Try.underlying60 hi hz0 hz1 hz2 (by decide) (by decide) encB_len encB_one (.slice (some ⟨w2.heap.size, 0, Option.none⟩) 0 0) ([] : List Int) (by rfl) (row_new w2) A n c p HN.out (by rfl) hA ((RP.out.below B2.out).below ((Below.refl _ w2).alloc (Nat.le_refl _) _)) ?k2 ?k3 ?k4)
  case k2 => simp only [List.length_nil]; unfold maxLen; omega
  case k3 => simp only [List.length_nil]; omega
  case k4 =>
  intro v3 w3 hr ha
  have hB3 : Below w2.heap.size w2 w3 := below_app ((Below.refl _ w2).alloc (Nat.le_refl _) _) (by simp) ha (fun k hk => by
    have : w2.heap.size = k := by simpa [Value.ownBlock] using hk
    omega)
  have ho3 : ∀ k, v3.ownBlock = some k → w2.heap.size ≤ k := fun k hk => by
    rcases ha.own k hk with h1 | h1
    · have : w2.heap.size = k := by simpa [Value.ownBlock] using h1
      omega
    · simp at h1
      omega
  have hr : RowOf 5 1 encB w3 v3 p := hr
  obtain ⟨A3, c3, rfl, hc3, hR3⟩ := hr.reps encB_len
  rw [HN.out] at hr hc3 ho3
  rw [HN.out]
  have hgl := H2.out.box.lt
  have hrl := H2.out.rlt
  have hne3 : ∀ a, A3 = some a → a.block ≠ rb := fun a e => by
    subst e
    obtain ⟨h0, _⟩ | ⟨b', cap, cur, h0, _⟩ := hr
    · cases h0
    injection h0 with h0 _ _
    injection h0 with h0
    subst h0
    have := ho3 b' (by simp [Value.ownBlock])
    simp only
    omega
  have W3 := write_ok g rb ⟨0, 0, List.replicate m 0, m⟩ p A3 c3 w3 (H2.out.below hB3) (by rw [HN.out]; exact hc3) hR3 (fun _ => hne3) (by simp only [List.length_replicate]; rw [HN.out]; omega) (by simp only; rw [HN.out]; omega)
  have D3 := holds_write (holds_new 0 m) (H2.out.below hB3).ok p (by rw [HN.out]; simp; omega)
  simp only at W3 D3
  rw [List.nil_append] at D3
  generalize hb3 : (⟨0, 0 + (p.length : Int), put (List.replicate m 0) (at_ ⟨0, 0, List.replicate m 0, m⟩ 0) (upto_ ⟨0, 0, List.replicate m 0, m⟩ 0 p.length) p, m⟩ : Buf) = b3 at W3 D3
  rw [HN.out] at W3
  have W3 := Lib.hid W3
  have D3 := Lib.hid D3
  have R3 := Lib.hid hr
  have B3 := Lib.hid (below_then B2.out B2.out.size hB3)
  have O3 := Lib.hid (show ∀ k, (Value.slice A3 n c3).ownBlock = some k → w.heap.size ≤ k ∧ k ≠ g ∧ k ≠ rb from fun k hk => by have h1 := ho3 k hk; have h2 := B2.out.size; exact ⟨by omega, by omega, by omega⟩)
  clear ha hB3 ho3 hr hR3 hne3 hb3 H2 hgl hrl
  go_wp2_with fail
  refine W3.out.mono ?_
  rintro e w4 ⟨rfl, h4, k4⟩
  have hm4 : Bump w w4 g rb b3 (.slice A3 n c3) p := ⟨R3.out.same fun k hk => k4.block k (R3.out.lt k hk) (O3.out k hk).2.1 (fun e => absurd (show rb = k by simpa [slc, Value.ownBlock] using e) (Ne.symm (O3.out k hk).2.2)), O3.out, h4, kept_own B3.out k4 B3.out.size gB rB⟩
  have M4 := Lib.hid hm4
  clear h4 k4 hm4 W3 R3 O3
  go_wp2_with fail
  go_loopw [15] (fun i wr => ∃ (k : Nat) (zs : List Int), k ≤ n ∧ Hid (zs.length = n) ∧ i = .int .i64 k ∧ Hid (Bump w wr g rb b3 (.slice A3 n c3) zs)) (fun i _ => n - (intOf i).toNat)
  case atStart => exact ⟨0, p, by omega, HN, rfl, M4⟩
  case round =>
    obtain ⟨k, zs, hk, hz, rfl, hH⟩ := hrel
    by_cases hlt : k < n
    · obtain ⟨x, hx⟩ : ∃ x, zs[k]? = some x := ⟨_, List.getElem?_eq_getElem (by rw [hz.out]; exact hlt)⟩
      have hrow := hH.out.row
      obtain ⟨h0, h00⟩ | ⟨mb, cap, cur, h0, _⟩ := id hrow
      · have := hz.out; rw [h00] at this; simp at this; omega
      injection h0 with h0 _ _
      obtain ⟨ad, had⟩ : ∃ ad : Addr, ad = ⟨mb, 0, Option.none⟩ := ⟨_, rfl⟩
      rw [← had] at h0
      subst h0
      have hak : ad.add k = ⟨mb, k, Option.none⟩ := by rw [had, add0]
      have c0 : wr.cell? (ad.add k) = some (.int .u8 x) := by
        rw [hak]
        rw [had] at hrow
        refine hrow.cell encB_len k _ ?_
        rw [flatB, List.getElem?_map, hx]
        rfl
      have fz : wr.frozen? (ad.add k) = false := by
        rw [hak]
        rw [had] at hrow
        exact row_frozen hrow k
      have q0 : (0 : Int) ≤ (k : Int) := by omega
      have q1 : (k : Int) < (n : Int) := by omega
      have HAK := Lib.hid hak
      have HAD := Lib.hid had
      clear hrow hx hak had
      go_wp2
      go_roundw
      case rel =>
        refine ⟨k + 1, zs.set k (IntKind.u8.wrap (x + 1)), by omega, Lib.hid (by rw [List.length_set]; exact hz.out), by go_num, Lib.hid ?_⟩
        have hb := hH.out
        rw [HAD.out] at hb ⊢
        have := bump_set hb k (IntKind.u8.wrap (x + 1)) (by rw [hz.out]; exact hlt)
        rw [add0]
        exact this
      case measure => simp [intOf]; omega
    · obtain rfl : k = n := by omega
      have h5 := hH.out.buf
      have B5 := Lib.hid hH.out.bel
      obtain ⟨f, hf, hfn⟩ : ∃ f : Nat, fr % ((k : Int) + 1) = (f : Int) ∧ f ≤ k := by
        have e1 := Int.emod_nonneg fr (show (k : Int) + 1 ≠ 0 by omega)
        have e2 := Int.emod_lt_of_pos fr (show 0 < (k : Int) + 1 by omega)
        exact ⟨(fr % ((k : Int) + 1)).toNat, by omega, by omega⟩
      have t0 : IntKind.i64.wrap ((k : Int) + 1) = (k : Int) + 1 := IntWalk.i64_in _ (by omega)
      have F5 := free_ok g rb b3 f wr h5 (by rw [D3.out.hu]; omega) (by rw [D3.out.hf, HN.out]; omega)
      have D5 := holds_free D3.out (f : Int) (by omega) (by rw [HN.out]; omega)
      generalize hb5 : (⟨f, b3.fin, b3.ring, b3.cap⟩ : Buf) = b5 at F5 D5
      rw [show ((f : Int) - 0).toNat = f by omega] at D5
      have F5 := Lib.hid F5
      have D5 := Lib.hid D5
      clear hb5 h5 hH hz M4
      go_wp2_with fail
      refine F5.out.mono ?_
      rintro e w5 ⟨rfl, h5, k5⟩
      have B6 := Lib.hid (kept_own B5.out k5 B5.out.size gB rB)
      have hlenB : (p.drop f).length = k - f := by rw [List.length_drop, HN.out]
      obtain ⟨more, hmore⟩ : ∃ more : Bool, decide ((q.length : Int) ≤ (m : Int) - (k : Int) + (f : Int)) = more := ⟨_, rfl⟩
      have S6 := second_calls g rb b5 f m (p.drop f) q D d w5 h5 D5.out hd (RQ.out.below B6.out) (fun hq0 a e => by
        obtain ⟨q0, hq1⟩ : ∃ q0, q[0]? = some q0 := ⟨_, List.getElem?_eq_getElem (List.length_pos_iff.2 hq0)⟩
        obtain ⟨ad, e1, hl, _⟩ := RQ.out 0 q0 hq1
        obtain rfl : a = ad := by rw [e] at e1; simpa using e1
        omega) (by omega) hm2
      rw [show decide ((q.length : Int) ≤ (m : Int) - ((p.drop f).length : Int)) = more by rw [← hmore]; exact decide_eq_decide.2 (by rw [hlenB]; omega)] at S6
      have HMore := Lib.hid hmore
      have S6 := Lib.hid S6
      have HB := Lib.hid hlenB
      obtain ⟨qn, hqn⟩ : ∃ qn, q.length = qn := ⟨_, rfl⟩
      have HQ := Lib.hid hqn
      rw [hqn] at S6 hmore hd hq HMore
      rw [hqn]
      clear hqn
      have t1 : IntKind.i64.wrap ((m : Int) - (k : Int)) = (m : Int) - (k : Int) := IntWalk.i64_in _ (by omega)
      have t2 : IntKind.i64.wrap ((m : Int) - (k : Int) + (f : Int)) = (m : Int) - (k : Int) + (f : Int) := IntWalk.i64_in _ (by omega)
      have t3 : IntKind.i64.wrap ((k : Int) - (f : Int)) = (k : Int) - (f : Int) := IntWalk.i64_in _ (by omega)
      have t4 : IntKind.i64.wrap ((k : Int) - (f : Int) + 1) = (k : Int) - (f : Int) + 1 := IntWalk.i64_in _ (by omega)
      obtain ⟨x, y, hx, hxn, hfx, hxk⟩ : ∃ x y : Nat, cu % ((k : Int) - (f : Int) + 1) = (y : Int) ∧ f + y = x ∧ f ≤ x ∧ x ≤ k := by
        have e1 := Int.emod_nonneg cu (show (k : Int) - (f : Int) + 1 ≠ 0 by omega)
        have e2 := Int.emod_lt_of_pos cu (show 0 < (k : Int) - (f : Int) + 1 by omega)
        exact ⟨f + (cu % ((k : Int) - (f : Int) + 1)).toNat, (cu % ((k : Int) - (f : Int) + 1)).toNat, by omega, rfl, by omega, by omega⟩
      have t5 : IntKind.i64.wrap ((f : Int) + (y : Int)) = (x : Int) := by rw [show (f : Int) + (y : Int) = (x : Int) by omega]; exact IntWalk.i64_in _ (by omega)
      clear h5 k5 F5 hlenB hxn
      go_wp2_with fail
      refine S6.out.mono ?_
      rintro e w6 ⟨r, b6, rfl, hr6, h6, d6, k6⟩
      have B7 := Lib.hid (kept_own B6.out k6 B6.out.size gB rB)
      have hfin : b6.fin = (f : Int) + (((p.drop f) ++ if more = true then q else []).length : Nat) := d6.hf
      rw [List.length_append, HB.out] at hfin
      have hw1 : window b6 f (x - f) = (p.drop f).take (x - f) := by
        rw [window_holds d6 h6.ok f (x - f) (Int.le_refl _) (by rw [List.length_append, HB.out]; omega), show ((f : Int) - f).toNat = 0 by omega, List.drop_zero, List.take_append_of_le_length (by rw [HB.out]; omega)]
      have hw2 : window b6 x (k - x) = p.drop x := by
        rw [window_holds d6 h6.ok x (k - x) (by omega) (by rw [List.length_append, HB.out]; omega), show ((x : Int) - f).toNat = x - f by omega, List.drop_append_of_le_length (by rw [HB.out]; omega), List.drop_drop, show f + (x - f) = x by omega, List.take_append_of_le_length (by rw [List.length_drop, HN.out]; omega), List.take_of_length_le (by rw [List.length_drop, HN.out]; omega)]
      obtain ⟨z, hz⟩ : ∃ z : Nat, b6.fin - x = z := ⟨(b6.fin - x).toNat, by omega⟩
      have hw3 : window b6 x z = p.drop x ++ (if more = true then q else []) := by
        rw [window_holds d6 h6.ok x z (by omega) (by rw [List.length_append, HB.out]; omega), show ((x : Int) - f).toNat = x - f by omega, List.drop_append_of_le_length (by rw [HB.out]; omega), List.drop_drop, show f + (x - f) = x by omega, List.take_of_length_le (by rw [List.length_append, List.length_drop, HN.out]; omega)]
      have W7 := Lib.hid (hw1 ▸ read_ok g rb b6 f x (x - f) w6 h6 (by rw [d6.hu]; omega) (by omega) (by omega) (by omega))
      have W8 := Lib.hid (fun w (h : IsBuf w g rb b6) => hw2 ▸ read_ok g rb b6 x k (k - x) w h (by rw [d6.hu]; omega) (by omega) (by omega) (by omega))
      have W9 := Lib.hid (fun w (h : IsBuf w g rb b6) => hw3 ▸ read_ok g rb b6 x b6.fin z w h (by rw [d6.hu]; omega) (by omega) (Int.le_refl _) hz)
      have E9 := Lib.hid (fun w (h : IsBuf w g rb b6) => end_calls g rb b6 w h)
      have H6 := Lib.hid h6
      have HF := Lib.hid (And.intro hfin hz)
      generalize b6.fin = fin at *
      have hX : ((p.drop f).take (x - f)).length = x - f := by rw [List.length_take, HB.out]; omega
      have hY : (p.drop x).length = k - x := by rw [List.length_drop, HN.out]
      have hgl := h6.box.lt
      have hrl := h6.rlt
      have HGL := Lib.hid (And.intro hgl hrl)
      clear h6 k6 d6 S6 hw1 hw2 hw3 hfin hz hgl hrl
      go_wp2_with fail
      refine W7.out.mono ?_
      rintro e w7 ⟨v7, rfl, r7, b7, o7⟩
      obtain ⟨A7, c7, rfl, _, hR7⟩ := r7.reps encB_len
      rw [hX]
      have R7 := Lib.hid hR7
      have B8 := Lib.hid (below_then B7.out B7.out.size b7)
      have H7 := Lib.hid (H6.out.below b7)
      have HX := Lib.hid hX
      have HY := Lib.hid hY
      have S7 := Lib.hid b7.size
      clear r7 b7 o7 hR7 W7 hX hY
      go_wp2_with fail
      refine (W8.out w7 H7.out).mono ?_
      rintro e w8 ⟨v8, rfl, r8, b8, o8⟩
      obtain ⟨A8, c8, rfl, _, hR8⟩ := r8.reps encB_len
      rw [HY.out] at r8 o8
      rw [HY.out]
      have R7' := Lib.hid (R7.out.below b8)
      have R8 := Lib.hid hR8
      have Row8 := Lib.hid r8
      have O8 := Lib.hid (show ∀ j, (Value.slice A8 (k - x) c8).ownBlock = some j → w.heap.size ≤ j ∧ j ≠ g ∧ j ≠ rb from fun j hj => by have h1 := o8 j hj; have h2 := B8.out.size; have h3 := HGL.out; have h4 := S7.out; exact ⟨by omega, by omega, by omega⟩)
      have B9 := Lib.hid (below_then B8.out B8.out.size b8)
      have H8 := Lib.hid (H7.out.below b8)
      clear r8 b8 o8 hR8 W8 R7 H7 H6
      have i1 : (0 : Int) ≤ (f : Int) := by omega
      have i2 : (f : Int) ≤ (x : Int) := by omega
      have i3 : (x : Int) ≤ (c : Int) := by omega
      have i4 : (0 : Int) ≤ (x : Int) := by omega
      have i5 : (x : Int) ≤ (k : Int) := by omega
      go_wp2_with fail
      refine (same_n A7 (Aim A c f) c7 (c - f) (x - f) (x - f) ((p.drop f).take (x - f)) w8 R7'.out (reps_take _ (reps_from (RP.out.below B9.out) (by rw [HN.out]; omega))) HX.out HX.out (by omega)).mono ?_
      rintro e w9 ⟨rfl, b9⟩
      have R8' := Lib.hid (R8.out.below b9)
      have Row9 := Lib.hid (Row8.out.below b9)
      have H9 := Lib.hid (H8.out.below b9)
      have B10 := Lib.hid (below_then B9.out B9.out.size b9)
      clear b9 R7' R8 Row8 H8
      go_wp2_with fail
      refine (same_n A8 (Aim A c x) c8 (c - x) (k - x) (k - x) (p.drop x) w9 R8'.out (reps_from (RP.out.below B10.out) (by rw [HN.out]; omega)) HY.out HY.out (by omega)).mono ?_
      rintro e w10 ⟨rfl, b10⟩
      have M10 := Lib.hid (show Bump w w10 g rb b6 (.slice A8 (k - x) c8) (p.drop x) from ⟨Row9.out.below b10, O8.out, H9.out.below b10, below_then B10.out B10.out.size b10⟩)
      clear b10 R8' Row9 H9 O8
      have hny : ((k - x : Nat) : Int) ≤ 65536 := by omega
      obtain ⟨ny, hny2⟩ : ∃ ny, k - x = ny := ⟨_, rfl⟩
      have HNY := Lib.hid hny2
      rw [hny2] at M10 hny ⊢
      rw [hny2] at HY
      clear hny2
      go_wp2_with fail
      go_loopw [23] (fun i wr => ∃ (k2 : Nat) (zs : List Int), k2 ≤ ny ∧ Hid (zs.length = ny) ∧ i = .int .i64 k2 ∧ Hid (Bump w wr g rb b6 (.slice A8 ny c8) zs)) (fun i _ => ny - (intOf i).toNat)
      case atStart => exact ⟨0, _, by omega, HY, rfl, M10⟩
      case round =>
        obtain ⟨k2, zs, hk, hz, rfl, hH⟩ := hrel
        by_cases hlt : k2 < ny
        · obtain ⟨x, hx⟩ : ∃ x, zs[k2]? = some x := ⟨_, List.getElem?_eq_getElem (by rw [hz.out]; exact hlt)⟩
          have hrow := hH.out.row
          obtain ⟨h0, h00⟩ | ⟨mb, cap, cur, h0, _⟩ := id hrow
          · have := hz.out; rw [h00] at this; simp at this; omega
          injection h0 with h0 _ _
          obtain ⟨ad, had⟩ : ∃ ad : Addr, ad = ⟨mb, 0, Option.none⟩ := ⟨_, rfl⟩
          rw [← had] at h0
          subst h0
          have hak : ad.add k2 = ⟨mb, k2, Option.none⟩ := by rw [had, add0]
          have c0 : wr.cell? (ad.add k2) = some (.int .u8 x) := by
            rw [hak]
            rw [had] at hrow
            refine hrow.cell encB_len k2 _ ?_
            rw [flatB, List.getElem?_map, hx]
            rfl
          have fz : wr.frozen? (ad.add k2) = false := by
            rw [hak]
            rw [had] at hrow
            exact row_frozen hrow k2
          have q0 : (0 : Int) ≤ (k2 : Int) := by omega
          have q1 : (k2 : Int) < (ny : Int) := by omega
          have HAK := Lib.hid hak
          have HAD := Lib.hid had
          clear hrow hx hak had
          go_wp2
          go_roundw
          case rel =>
            refine ⟨k2 + 1, zs.set k2 (IntKind.u8.wrap (x + 1)), by omega, Lib.hid (by rw [List.length_set]; exact hz.out), by go_num, Lib.hid ?_⟩
            have hb := hH.out
            rw [HAD.out] at hb ⊢
            have := bump_set hb k2 (IntKind.u8.wrap (x + 1)) (by rw [hz.out]; exact hlt)
            rw [add0]
            exact this
          case measure => simp [intOf]; omega
        · obtain rfl : k2 = ny := by omega
          have H11 := Lib.hid hH.out.buf
          have B11 := Lib.hid hH.out.bel
          clear hH hz M10
          go_wp2_with fail
          refine (E9.out wr H11.out).mono ?_
          rintro e w12 ⟨rfl, rfl⟩
          go_wp2_with fail
          refine (W9.out wr H11.out).mono ?_
          rintro e w13 ⟨v13, rfl, r13, b13, o13⟩
          obtain ⟨A13, c13, rfl, _, hR13⟩ := r13.reps encB_len
          have R13 := Lib.hid hR13
          have B13 := Lib.hid (below_then B11.out B11.out.size b13)
          have N13 : Hid (A13 = A13) := Lib.hid rfl
          clear r13 b13 o13 hR13 H11
          obtain ⟨n13, hn13⟩ : ∃ n13, (p.drop x ++ if more = true then q else []).length = n13 := ⟨_, rfl⟩
          have HL13 := Lib.hid hn13
          rw [hn13]
          clear hn13
          have hAim : Aim A c x = Option.none → c - x = 0 := fun h => by
            unfold Aim at h
            split at h
            · have := hA h; omega
            · have := hA (by simpa using h); omega
          go_wp2_with (at_builtin; refine wpList_append_any (by rfl) _ _ 60 (by rfl) i0 _ 1 Try.underlying60 hi hz0 hz1 hz2 (by decide) (by decide) encB_len encB_one (.slice (some ⟨w13.heap.size, 0, Option.none⟩) 0 0) ([] : List Int) (by rfl) (row_new w13) (Aim A c x) (k - x) (c - x) (p.drop x) (HY.out.trans HNY.out.symm) (by rfl) hAim ((reps_from (RP.out.below B13.out) (by rw [HN.out]; omega)).below ((Below.refl _ w13).alloc (Nat.le_refl _) _)) ?k2 ?k3 ?k4)
          case k2 => simp only [List.length_nil]; unfold maxLen; omega
          case k3 => simp only [List.length_nil]; omega
          case k4 =>
          intro v14 w14 r14 a14
          have hB14 : Below w13.heap.size w13 w14 := below_app ((Below.refl _ w13).alloc (Nat.le_refl _) _) (by simp) a14 (fun j hj => by
            have : w13.heap.size = j := by simpa [Value.ownBlock] using hj
            omega)
          have ho14 : ∀ j, v14.ownBlock = some j → w13.heap.size ≤ j := fun j hj => by
            rcases a14.own j hj with h1 | h1
            · have : w13.heap.size = j := by simpa [Value.ownBlock] using h1
              omega
            · simp at h1
              omega
          have r14 : RowOf 5 1 encB w14 v14 (p.drop x) := r14
          have R14 := Lib.hid r14
          have R13' := Lib.hid (R13.out.below hB14)
          have B14 := Lib.hid (below_then B13.out B13.out.size hB14)
          have O14 := Lib.hid (fun j hj => Nat.le_trans B13.out.size (ho14 j hj))
          have BX := Lib.hid hB14
          have OX := Lib.hid ho14
          clear a14 hB14 ho14 r14
          cases more with
          | true =>
            have hL : (p.drop x ++ q).length = n13 := by simpa using HL13.out
            have R13'' := Lib.hid (show Reps w14 A13 1 encB (p.drop x ++ q) by simpa using R13'.out)
            have hqm : qn ≤ 65536 := by
              have := of_decide_eq_true HMore.out
              omega
            have HLL := Lib.hid hL
            clear HL13 R13' hL
            go_wp2_with (at_builtin; refine wpList_append_any (by rfl) _ _ 60 (by rfl) i0 _ 1 Try.underlying60 hi hz0 hz1 hz2 (by decide) (by decide) encB_len encB_one v14 (p.drop x) (by rfl) R14.out D qn d q HQ.out (by rfl) hD (RQ.out.below B14.out) ?k2 ?k3 ?k4)
            case k2 => have := HN.out; unfold maxLen; omega
            case k3 => have := HN.out; omega
            case k4 =>
              intro v15 w15 r15 a15
              obtain ⟨A15, c15, rfl, _, hR15⟩ := r15.reps encB_len
              rw [HLL.out]
              have hB15 := below_app B14.out B14.out.size a15 O14.out
              have R15 := Lib.hid hR15
              have R13a := Lib.hid (show Reps w15 A13 1 encB (p.drop x ++ q) by
                have hh : Reps w13 A13 1 encB (p.drop x ++ q) := by simpa using R13.out
                exact hh.below (below_app BX.out BX.out.size a15 OX.out))
              have B15 := Lib.hid hB15
              clear r15 a15 hR15 hB15
              go_wp2_with fail
              refine (same_n A13 A15 c13 c15 n13 n13 (p.drop x ++ q) w15 R13a.out R15.out HLL.out HLL.out (by have e1 := HLL.out; have e2 := HY.out; have e3 := HQ.out; rw [List.length_append] at e1; omega)).mono ?_
              rintro e w16 ⟨rfl, b16⟩
              have B16 := Lib.hid (below_then B15.out B15.out.size b16)
              clear b16
              go_wp2_with fail
              refine (known_calls w16).mono ?_
              rintro e w17 ⟨rfl, b17⟩
              have B17 := Lib.hid (below_then B16.out B16.out.size b17)
              clear b17
              go_wp2
              go_ret
              exact ⟨rfl, B17.out⟩
          | false =>
            have hL : (p.drop x).length = n13 := by simpa using HL13.out
            have R13'' := Lib.hid (show Reps w14 A13 1 encB (p.drop x) by simpa using R13'.out)
            obtain ⟨A15, c15, rfl, _, hR15⟩ := R14.out.reps encB_len
            rw [hL]
            have HLL := Lib.hid hL
            have R15 := Lib.hid hR15
            clear HL13 R13' hL hR15
            go_wp2_with fail
            refine (same_n A13 A15 c13 c15 n13 n13 (p.drop x) w14 R13''.out R15.out HLL.out HLL.out (by have := HLL.out; have := HY.out; omega)).mono ?_
            rintro e w16 ⟨rfl, b16⟩
            have B16 := Lib.hid (below_then B14.out B14.out.size b16)
            clear b16
            go_wp2_with fail
            refine (known_calls w16).mono ?_
            rintro e w17 ⟨rfl, b17⟩
            have B17 := Lib.hid (below_then B16.out B16.out.size b17)
            clear b17
            go_wp2
            go_ret
            exact ⟨rfl, B17.out⟩
end Go.Proofs.Ytaokiocpfpdmkaa.Buff
