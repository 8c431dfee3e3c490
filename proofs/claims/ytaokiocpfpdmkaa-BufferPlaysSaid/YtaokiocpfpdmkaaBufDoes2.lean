/- Chapter 21 (buffer): an operation with both: reading; any. (UNDER WAY.) -/
import Derived.Test.YtaokiocpfpdmkaaBufDoes
set_option linter.unusedSimpArgs false
set_option linter.unusedVariables false
attribute [local go_sem ↓] Go.wp_at_zero Go.wp_at_succ
namespace Go.Proofs.Ytaokiocpfpdmkaa.Buff
open Go.BigFrame Go.RowKit Go.OpenShut Go.Proofs.Ytaokiocpfpdmkaa.Aid Go.Proofs.Ytaokiocpfpdmkaa.Spans
open Led (Kept kept_refl kept_set kept_drewN kept_drew kept_below below_kept)
def RStep (w : World) (xs : List Int) (r : Int) (e : Ending) (w' : World) : Prop :=
  ∃ A n c, e = .returned (.tuple #[.slice A n c, .int .i64 r]) ∧ xs.length = n ∧ Reps w' A 1 encB xs ∧ Below w.heap.size w w'
def rres (una : Int) (B : List Int) (s : Span) : Int × List Int :=
  if May s ∧ una ≤ s.lo ∧ s.hi ≤ una + B.length then (0, (B.drop (s.lo - una).toNat).take (s.hi - s.lo).toNat) else (3, [])
theorem rres_len (una : Int) (B : List Int) (s : Span) : (rres una B s).2.length ≤ B.length := by
  unfold rres
  split
  · simp only [List.length_take, List.length_drop]; omega
  · simp
theorem rd_calls (Z : Nat → Prop) (g rb : Nat) (una : Int) (most : Nat) (B : List Int) (A : Option Addr) (c : Nat) (s : Span) (w : World) (hb : BufOk w g rb una most B) (hd : DocOk w Z B A c) :
    Calls Try.prog 73 #[dval una most (.slice A B.length c), .agg #[.int .i64 s.lo, .int .i64 s.hi]] w (RStep w (rres una B s).2 (rres una B s).1) := by
  obtain ⟨b, h, hh⟩ := hb
  have e1 := hh.hu
  have e2 := hh.hf
  have o0 := h.ok.n1
  have o1 := h.ok.u0
  have o2 := h.ok.u2
  have o3 := h.ok.u3
  unfold rres
  by_cases h1 : May s ∧ una ≤ s.lo ∧ s.hi ≤ una + B.length
  · rw [if_pos h1]
    obtain ⟨⟨_, m2, _⟩, l1, l2⟩ := h1
    refine (rread_ok una most A B.length c s.lo s.hi (s.lo - una).toNat (s.hi - una).toNat w (by omega) hd.cap (by omega) (by omega) l1 m2 l2 (by omega) (by omega)).mono ?_
    rintro e w' ⟨rfl, b1⟩
    exact ⟨_, _, _, rfl, by rw [List.length_take, List.length_drop]; omega, reps_take _ (reps_from (hd.reps.below b1) hd.cap), b1⟩
  · rw [if_neg h1]
    refine (rread_bad una most A B.length c s w (by omega) (by omega) (by omega) (by
      by_cases h2 : May s
      · by_cases h3 : s.lo < una
        · exact .inr (.inl h3)
        · exact .inr (.inr (by
            by_cases h4 : s.hi ≤ una + B.length
            · exact absurd ⟨h2, by omega, h4⟩ h1
            · omega))
      · exact .inl h2)).mono ?_
    rintro e w' ⟨rfl, b1⟩
    exact ⟨_, _, _, rfl, rfl, by intro i x hx; simp at hx, b1⟩
theorem rb_calls (g rb : Nat) (una : Int) (most : Nat) (B : List Int) (s : Span) (w : World) (hb : BufOk w g rb una most B) :
    Calls Try.prog 40 #[.pointer (some ⟨g, 0, Option.none⟩), .agg #[.int .i64 s.lo, .int .i64 s.hi]] w (RStep w (rres una B s).2 (rres una B s).1) := by
  obtain ⟨b, h, hh⟩ := hb
  have e1 := hh.hu
  have e2 := hh.hf
  unfold rres
  by_cases h1 : May s ∧ una ≤ s.lo ∧ s.hi ≤ una + B.length
  · rw [if_pos h1]
    obtain ⟨⟨_, m2, _⟩, l1, l2⟩ := h1
    refine (read_ok g rb b s.lo s.hi (s.hi - s.lo).toNat w h (by omega) m2 (by omega) (by omega)).mono ?_
    rintro e w' ⟨v, rfl, r1, b1, _⟩
    rw [window_holds hh h.ok s.lo (s.hi - s.lo).toNat l1 (by omega)] at r1
    obtain ⟨A2, c2, rfl, _, hR⟩ := r1.reps encB_len
    exact ⟨_, _, _, rfl, rfl, hR, b1⟩
  · rw [if_neg h1]
    refine (read_bad g rb b s w h (by
      by_cases h2 : May s
      · by_cases h3 : s.lo < una
        · exact .inr (.inl (by omega))
        · exact .inr (.inr (by
            by_cases h4 : s.hi ≤ una + B.length
            · exact absurd ⟨h2, by omega, h4⟩ h1
            · omega))
      · exact .inl h2)).mono ?_
    rintro e w' ⟨rfl, b1⟩
    exact ⟨_, _, _, rfl, rfl, by intro i x hx; simp at hx, b1⟩
set_option maxRecDepth 100000 in
set_option maxHeartbeats 8000000 in
theorem does_read (Z : Nat → Prop) (g rb : Nat) (una : Int) (most : Nat) (B : List Int) (A D : Option Addr) (c d m : Nat) (k t : Int) (s : Span) (w : World) (hb : BufOk w g rb una most B) (hd : DocOk w Z B A c) (hB : B.length ≤ 65536)
    (k0 : 0 ≤ k) (k1 : k ≤ 255) (hk : k % 3 = 2) :
    Calls Try.prog 43 #[.pointer (some ⟨g, 0, Option.none⟩), dval una most (.slice A B.length c), opVal k D m d t s] w (Both w Z g rb most una B) := by
  have ht : k.tmod 3 = k % 3 := Int.tmod_eq_emod_of_nonneg k0
  have W1 := Lib.hid (fun w1 (h : Below w.heap.size w w1) => rd_calls Z g rb una most B A c s w1 (hb.below h) (hd.below h))
  have W2 := Lib.hid (fun w1 (h : Below w.heap.size w w1) => rb_calls g rb una most B s w1 (hb.below h))
  have HB := Lib.hid hb
  have HD := Lib.hid hd
  have hxl := rres_len una B s
  generalize hr : rres una B s = res at *
  obtain ⟨r, xs⟩ := res
  simp only at W1 W2 hxl
  have HX : Hid (xs.length ≤ 65536) := Lib.hid (by omega)
  obtain ⟨n, hn⟩ : ∃ n, B.length = n := ⟨_, rfl⟩
  have HN := Lib.hid hn
  rw [hn] at W1 ⊢
  clear hr hn hb hd hxl hB
  unfold dval opVal
  unfold dval at W1
  go_enter Try.func43, Try.ntmps43
  go_wp2_with fail
  refine (W1.out _ (below_3 w _ _ _)).mono ?_
  rintro e w1 ⟨A1, n1, c1, rfl, hn1, hR1, b1⟩
  have D1 := Lib.hid ((dbox_new w una most (.slice A n c) k D m d t s).below b1)
  have HN1 := Lib.hid hn1
  have R1 := Lib.hid hR1
  have y3 := D1.out.b1.cell 3
  have y4 := D1.out.b1.cell 4
  simp at y3 y4
  clear hn1 hR1 b1
  go_wp2_with fail
  refine (W2.out _ D1.out.bel).mono ?_
  rintro e w2 ⟨A2, n2, c2, rfl, hn2, hR2, b2⟩
  have D2 := Lib.hid (D1.out.below b2)
  have HN2 := Lib.hid hn2
  have R2 := Lib.hid hR2
  have R1' := Lib.hid (R1.out.below b2)
  have q0 := D2.out.b0.cell 0
  have q1 := D2.out.b0.cell 1
  have q2 := D2.out.b0.cell 2
  have z0 := D2.out.b2.cell 0
  have z1 := D2.out.b2.cell 1
  have z2 := D2.out.b2.cell 2
  have fr := D2.out.b2.frozen
  have hs2 := D2.out.b2.lt
  simp at q0 q1 q2 z0 z1 z2
  have ne1 : ¬ w.heap.size = w.heap.size + 1 + 1 := by omega
  have ne2 : ¬ w.heap.size + 1 + 1 = w.heap.size := by omega
  have ls0 : w.heap.size < w2.heap.size := by omega
  have SM := Lib.hid (fun w' (h : Below w2.heap.size w2 w') => same_n A1 A2 c1 c2 n1 n2 xs w' (R1'.out.below h) (R2.out.below h) HN1.out HN2.out (by have := HX.out; have := HN1.out; omega))
  clear hn2 hR2 b2 y3 y4 R1 D1
  go_upto_region 10 with fail
  go_region_held3 (fun w' => w'.cell? ⟨w.heap.size, 0, Option.none⟩ = some (.int .i64 una) ∧ w'.cell? ⟨w.heap.size, 1, Option.none⟩ = some (.int .i64 most) ∧ w'.cell? ⟨w.heap.size, 2, Option.none⟩ = some (.slice A n c)) (go_keep) ((go_at_call 41; refine (SM.out _ (by first | exact (Below.refl _ w2).drew | exact (Below.refl _ w2).drew.drew)).mono ?_; rintro e w3 ⟨rfl, hb3⟩; obtain ⟨hc, hf⟩ := bcell hb3; have u0 := (hc _ 0 ls0).trans q0; have u1 := (hc _ 1 ls0).trans q1; have u2 := (hc _ 2 ls0).trans q2; have u4 := (hc _ 0 hs2).trans z0; have u5 := (hc _ 1 hs2).trans z1; have u6 := (hc _ 2 hs2).trans z2; have fr3 := fun i => (hf _ i hs2).trans (fr i); have HB3 := Lib.hid (show Below w2.heap.size w2 w3 from ⟨hb3.os, hb3.tape, hb3.output, hb3.size, hb3.block⟩); clear hb3 hc hf))
  all_goals
    go_wp2
    have B3 := Lib.hid (below_then D2.out.bel D2.out.bel.size HB3.out)
    refine bodyPost_ret (v := .tuple #[dval una most (.slice A n c), .bool true]) (by simp [results, Try.results43, go_sem, dval, u4, u5, u6]; done) rfl ⟨A, c, by rw [HN.out], ?_, ?_, ?_⟩
    · exact (docok_set (docok_set (docok_set (docok_more HD.out B3.out) _ _) _ _) _ _).less
    · exact bufok_set (bufok_set (bufok_set (HB.out.below B3.out) _ _ (by have := HB.out.lt; omega) (by have := HB.out.lt; omega)) _ _ (by have := HB.out.lt; omega) (by have := HB.out.lt; omega)) _ _ (by have := HB.out.lt; omega) (by have := HB.out.lt; omega)
    · obtain ⟨b, _, _⟩ := HB.out
      exact ⟨b, kept_new (kept_new (kept_new ⟨B3.out.os, B3.out.tape, B3.out.output, B3.out.size, fun k hk _ _ => B3.out.block k hk⟩ (by omega) _ _) (by omega) _ _) (by omega) _ _⟩
/-- Any operation. -/
theorem does_calls (Z : Nat → Prop) (g rb : Nat) (una : Int) (most : Nat) (B p : List Int) (A D : Option Addr) (c d : Nat) (k t : Int) (s : Span) (w : World) (hb : BufOk w g rb una most B) (hd : DocOk w Z B A c) (hZ : ∀ x, Z x → x < w.heap.size) (hZg : Z g) (hZr : Z rb) (hD : D = Option.none → d = 0) (hpd : p.length ≤ d) (hR : Reps w D 1 encB p) (hne : p ≠ [] → ∀ a, D = some a → a.block ≠ rb)
    (k0 : 0 ≤ k) (k1 : k ≤ 255) :
    Calls Try.prog 43 #[.pointer (some ⟨g, 0, Option.none⟩), dval una most (.slice A B.length c), opVal k D p.length d t s] w (fun e w' => ∃ una' B', Both w Z g rb most una' B' e w') := by
  have hB : B.length ≤ 65536 := by
    obtain ⟨b, h, hh⟩ := hb
    have e1 := hh.hu
    have e2 := hh.hf
    have o0 := h.ok.n1
    have o3 := h.ok.u3
    omega
  have hk : k % 3 = 0 ∨ k % 3 = 1 ∨ k % 3 = 2 := by omega
  rcases hk with hk | hk | hk
  · exact (does_write Z g rb una most B p A D c d k t s w hb hd hZ hZg hZr hD hpd hR hne k0 k1 hk hb.lt.1 hb.lt.2).mono fun e w' h => ⟨_, _, h⟩
  · exact (does_free Z g rb una most B A D c d p.length k t s w hb hd hZg hZr k0 k1 hk hb.lt.1 hb.lt.2).mono fun e w' h => ⟨_, _, h⟩
  · exact (does_read Z g rb una most B A D c d p.length k t s w hb hd hB k0 k1 hk).mono fun e w' h => ⟨_, _, h⟩
end Go.Proofs.Ytaokiocpfpdmkaa.Buff
