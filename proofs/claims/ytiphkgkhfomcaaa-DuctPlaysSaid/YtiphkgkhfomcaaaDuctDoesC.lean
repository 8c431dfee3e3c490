/- Chapter 25 (duct): does: Drop, Take; whatever operation. -/
import Derived.Test.YtiphkgkhfomcaaaDuctDoesB
set_option linter.unusedSimpArgs false
set_option linter.unusedVariables false
attribute [local go_sem ↓] Go.wp_at_zero Go.wp_at_succ
namespace Go.Proofs.Ytiphkgkhfomcaaa.Duct
open Go.BigFrame Go.RowKit Go.OpenShut Go.Proofs.Ytiphkgkhfomcaaa.Aid Go.Proofs.Ytiphkgkhfomcaaa.DMap Go.Proofs.Ytiphkgkhfomcaaa.Byt
theorem to_drew {w w' : World} {g mb : Nat} {fv : Value} {L' : Dt} (h : To w.drew g mb fv L' w') : To w g mb fv L' w' := by
  obtain ⟨fv', m', a, b, c⟩ := h
  exact ⟨fv', m', a, ⟨b.os, b.tape, b.output, b.size, b.block⟩, c⟩
theorem To.keeps {w w' : World} {g mb : Nat} {fv : Value} {L' : Dt} (h : To w g mb fv L' w') : Keeps w w' g mb fv := by
  obtain ⟨_, _, _, hk, _⟩ := h
  exact hk
theorem To.below {w w' w2 : World} {g mb : Nat} {fv : Value} {L' : Dt} (h : To w g mb fv L' w') (hb : Below w'.heap.size w' w2) : To w g mb fv L' w2 := by
  obtain ⟨fv', m', a, b, c⟩ := h
  exact ⟨fv', m', a.below hb, keeps_below b hb, c⟩
set_option maxRecDepth 100000 in
set_option maxHeartbeats 4000000 in
theorem does_drop {w0 w : World} {g mb : Nat} {fv : Value} {m : Int → Option Value} {L : Dt} {cs : List Cp} {v : Value} (hS : St w0 w g mb fv m L) (hr : RowOf 124 5 encP w v cs) (hA : Agree w0 L cs) (hl : L.fates.length < 1000000) (kd id now dt : Int) (rv : Value) (hi : Fits id) (hk : kd % 5 = 4) (hk0 : 0 ≤ kd) :
    Calls Try.prog 35 #[.pointer (some ⟨g, 0, Option.none⟩), refD L.last v, .agg #[.int .u8 kd, .int .i64 id, rv, .int .i64 dt], .int .i64 now] w (DoneD w0 w g mb fv v (endR L id now 2).2.2) := by
  have RS := Lib.hid (rend_to hr hA hl id now 2 (by decide))
  have KS := Lib.hid (drop_to hS id now hi)
  have HS := Lib.hid hS
  have HV := Lib.hid (fun k (hk : v.ownBlock = some k) => (And.intro (hr.lt k hk) (row_far hS.d hr k hk)))
  obtain ⟨Av, nv, cv, rfl⟩ := hr.some_slice
  have D0 := Lib.hid (doorD_new w L.last (.slice Av nv cv) kd id rv dt)
  have hkk : kd.tmod 5 = 4 := by rw [Int.tmod_eq_emod_of_nonneg hk0]; exact hk
  clear hS hr hA hk hk0 hi
  generalize endR L id now 2 = R at *
  obtain ⟨xs, er, L'⟩ := R
  simp only at RS KS
  go_enter Try.func35, Try.ntmps35
  go_wp2_with fail
  refine (RS.out _ D0.out.2.1).mono ?_
  rintro e W1 ⟨v', cs', r1, hP, rfl, r1, a1, b1, o1⟩
  obtain ⟨A2, n2, c2, rfl⟩ := r1.some_slice
  have hs0 := D0.out.2.2
  have hs1 := b1.size
  have bW1 := below_then D0.out.2.1 D0.out.2.1.size b1
  have d1 := D0.out.1.below b1
  have R1 := Lib.hid (And.intro r1 (And.intro a1 (And.intro bW1 (fun k hk => (o1 k hk).imp (fun x => x) (fun e => show w.heap.size + 2 < k by omega)))))
  clear r1 a1 o1 b1 RS hP
  go_upto_region 12 with fail
  have b2 : Below W1.heap.size W1 (W1.alloc (.cells #[.int .i64 L'.last, .slice A2 n2 c2] 76)) := (Below.refl _ W1).alloc (Nat.le_refl _) _
  have hX := Blk.new W1 76 #[.int .i64 L'.last, .slice A2 n2 c2]
  have d2 := d1.below b2
  have hsz2 : (W1.alloc (.cells #[.int .i64 L'.last, .slice A2 n2 c2] 76)).heap.size = W1.heap.size + 1 := World.size_alloc _ _
  revert b2 hX d2 hsz2
  generalize W1.alloc (.cells #[.int .i64 L'.last, .slice A2 n2 c2] 76) = W2
  intro b2 hX d2 hsz2
  generalize hXX : W1.heap.size = X at *
  have p1 := d2.b5.cell 1
  have x0 := hX.cell 0
  have x1 := hX.cell 1
  simp at p1 x0 x1
  have HXX := Lib.hid hXX
  have AFT := Lib.hid (fun (W' : World) (k3 : Keeps W2 W' g mb fv) => after_does d2 hX HS.out.d (by omega) k3)
  have KW := Lib.hid (fun (W : World) (hW : Below W2.heap.size W2 W) => KS.out W (below_then (below_then bW1 bW1.size (by rw [hXX]; exact b2)) (by have := bW1.size; omega) hW))
  have HB2 := Lib.hid b2
  have ne1 : ¬ (w.heap.size + 2 = X) := by omega
  have ne2 : ¬ (X = w.heap.size + 2) := by omega
  clear d1 d2 hX KS b2 hXX hsz2 bW1 hs1 hs0
  go_region_held3 (fun W => W.cell? ⟨X, 0, Option.none⟩ = some (.int .i64 L'.last) ∧ W.cell? ⟨X, 1, Option.none⟩ = some (.slice A2 n2 c2) ∧ W.cell? ⟨w.heap.size + 1, 1, Option.none⟩ = some (.int .i64 id)) (go_keep) ((go_at_call 29; refine (KW.out _ (by first | exact below_drew (Below.refl _ _) | exact below_drew (below_drew (Below.refl _ _)))).mono ?_; rintro e W3 ⟨rfl, hT⟩; have HT := Lib.hid (to_drew hT); obtain ⟨⟨a0, a1, a2⟩, ⟨y0, y1, yf⟩, hb6⟩ := AFT.out W3 HT.out.keeps; have B6 := Lib.hid hb6; clear hT hb6))
  all_goals
    go_wp2
    have E := Lib.hid (done_end HS.out rfl R1.out.2.2.1 R1.out.1 HV.out R1.out.2.2.2 R1.out.2.1 (by rw [HXX.out]; exact HB2.out) HT.out B6.out)
    have o1 := ((B6.out.set_ 0 (.int .i64 L'.last)).set_ 1 (.slice A2 n2 c2)).eq (cs' := #[.int .i64 L'.last, .slice A2 n2 c2]) (by simp)
    have t0 := o1.cell 0
    have t1 := o1.cell 1
    simp at t0 t1
    exact bodyPost_ret (v := .tuple #[refD L'.last (.slice A2 n2 c2), .bool true]) (by simp [results, Try.results35, go_sem, t0, t1]; done) rfl E.out
theorem after_does2 {W W' : World} {X Y : Nat} {u0 u1 : Value} (h0 : W.cell? ⟨X, 0, Option.none⟩ = some u0) (h1 : W.cell? ⟨X, 1, Option.none⟩ = some u1) (h6 : Blk W Y 76 #[.int .i64 0, nilS]) (hb : Below W.heap.size W W') :
    (W'.cell? ⟨X, 0, Option.none⟩ = some u0 ∧ W'.cell? ⟨X, 1, Option.none⟩ = some u1) ∧ (W'.cell? ⟨Y, 0, Option.none⟩ = some (.int .i64 0) ∧ W'.cell? ⟨Y, 1, Option.none⟩ = some nilS ∧ (∀ i, W'.frozen? ⟨Y, i, Option.none⟩ = false)) ∧ Blk W' Y 76 #[.int .i64 0, nilS] := by
  have y := h6.below hb h6.lt
  have e3 := y.cell 0
  have e4 := y.cell 1
  simp at e3 e4
  exact ⟨⟨(hb.cell (p := ⟨X, 0, Option.none⟩) (World.block_lt_of_cell? W _ h0)).trans h0, (hb.cell (p := ⟨X, 1, Option.none⟩) (World.block_lt_of_cell? W _ h1)).trans h1⟩, ⟨e3, e4, y.frozen⟩, y⟩
theorem endR_len {w : World} {g mb : Nat} {fv : Value} {m : Int → Option Value} {L : Dt} (h : IsDuct w g mb fv m L) (id now kind : Int) : (endR L id now kind).1.length ≤ 2096 := by
  unfold endR
  by_cases hb : bad L now
  · rw [if_pos hb]; simp
  · rw [if_neg hb]
    rcases h.raw id with ⟨_, a⟩ | ⟨v, xs, _, a, _, c, _⟩
    · rw [a]; simp
    · rw [a]; exact c
/-- The document's bytes and the duct's own are the same. -/
theorem same_src {w0 W : World} {r v : Value} {xs : List Int} (hs : Byt.Src W r xs) (hv : RowOf 5 1 encB W v xs) (hl : xs.length ≤ 2096) : Calls Try.prog 31 #[r, v] W (Gives W (.bool true)) := by
  obtain ⟨A, c, rfl, hR, _⟩ := hs.is
  obtain ⟨B, d, rfl, _, hQ⟩ := hv.reps encB_len
  exact same_n A B c d xs.length xs.length xs W hR hQ rfl rfl (by omega)
set_option maxRecDepth 100000 in
set_option maxHeartbeats 4000000 in
theorem does_take {w0 w : World} {g mb : Nat} {fv : Value} {m : Int → Option Value} {L : Dt} {cs : List Cp} {v : Value} (hS : St w0 w g mb fv m L) (hr : RowOf 124 5 encP w v cs) (hA : Agree w0 L cs) (hl : L.fates.length < 1000000) (kd id now dt : Int) (rv : Value) (hi : Fits id) (hk : kd % 5 = 3) (hk0 : 0 ≤ kd) :
    Calls Try.prog 35 #[.pointer (some ⟨g, 0, Option.none⟩), refD L.last v, .agg #[.int .u8 kd, .int .i64 id, rv, .int .i64 dt], .int .i64 now] w (DoneD w0 w g mb fv v (endR L id now 1).2.2) := by
  have RS := Lib.hid (rend_to hr hA hl id now 1 (by decide))
  have KS := Lib.hid (take_to hS id now hi)
  have HS := Lib.hid hS
  have HL := Lib.hid (endR_len hS.d id now 1)
  have HV := Lib.hid (fun k (hk : v.ownBlock = some k) => (And.intro (hr.lt k hk) (row_far hS.d hr k hk)))
  obtain ⟨Av, nv, cv, rfl⟩ := hr.some_slice
  have D0 := Lib.hid (doorD_new w L.last (.slice Av nv cv) kd id rv dt)
  have hkk : kd.tmod 5 = 3 := by rw [Int.tmod_eq_emod_of_nonneg hk0]; exact hk
  clear hS hr hA hk hk0 hi
  generalize endR L id now 1 = R at *
  obtain ⟨xs, er, L'⟩ := R
  simp only at RS KS HL
  go_enter Try.func35, Try.ntmps35
  go_wp2_with fail
  refine (RS.out _ D0.out.2.1).mono ?_
  rintro e W1 ⟨v', cs', r1, hP, rfl, rr1, a1, b1, o1⟩
  obtain ⟨A2, n2, c2, rfl⟩ := rr1.some_slice
  obtain ⟨Ar, cr, rfl, _⟩ := hP.is
  have HP := Lib.hid hP
  have hs0 := D0.out.2.2
  have hs1 := b1.size
  have bW1 := below_then D0.out.2.1 D0.out.2.1.size b1
  have d1 := D0.out.1.below b1
  have R1 := Lib.hid (And.intro rr1 (And.intro a1 (And.intro bW1 (fun k hk => (o1 k hk).imp (fun x => x) (fun e => show w.heap.size + 2 < k by omega)))))
  clear rr1 a1 o1 b1 RS hP
  go_upto_region 8 with fail
  have b2 : Below W1.heap.size W1 (W1.alloc (.cells #[.int .i64 L'.last, .slice A2 n2 c2] 76)) := (Below.refl _ W1).alloc (Nat.le_refl _) _
  have hX := Blk.new W1 76 #[.int .i64 L'.last, .slice A2 n2 c2]
  have d2 := d1.below b2
  have hsz2 : (W1.alloc (.cells #[.int .i64 L'.last, .slice A2 n2 c2] 76)).heap.size = W1.heap.size + 1 := World.size_alloc _ _
  revert b2 hX d2 hsz2
  generalize W1.alloc (.cells #[.int .i64 L'.last, .slice A2 n2 c2] 76) = W2
  intro b2 hX d2 hsz2
  generalize hXX : W1.heap.size = X at *
  have p1 := d2.b5.cell 1
  simp at p1
  have HXX := Lib.hid hXX
  have AFT := Lib.hid (fun (W' : World) (k3 : Keeps W2 W' g mb fv) => after_does d2 hX HS.out.d (by omega) k3)
  have bW2 := below_then bW1 bW1.size (by rw [hXX]; exact b2)
  have KW := Lib.hid (KS.out W2 bW2)
  have HW2 := Lib.hid bW2
  have HB2 := Lib.hid b2
  have ne1 : ¬ (w.heap.size + 2 = X) := by omega
  have ne2 : ¬ (X = w.heap.size + 2) := by omega
  clear d1 d2 hX KS b2 hXX hsz2 bW1 hs1 hs0 bW2
  go_wp2_with fail
  refine KW.out.mono ?_
  rintro e W3 ⟨vt, rfl, hv3, hT⟩
  obtain ⟨At, ct, rfl, _⟩ := hv3.slice
  obtain ⟨⟨x0, x1, x2⟩, ⟨y0, y1, yf⟩, hb6⟩ := AFT.out W3 hT.keeps
  have SM : Hid (∀ W, Below W3.heap.size W3 W → Calls Try.prog 31 #[.slice Ar xs.length cr, .slice At xs.length ct] W (Gives W (.bool true))) := Lib.hid (fun W hW => by
    obtain ⟨fv', m', t1, t2, t3⟩ := hT
    have S3 := (HS.out.below HW2.out).keeps t1 t2 t3
    exact same_src (w0 := w0) ((HP.out.below S3.bel).below hW) (hv3.below hW) HL.out)
  have AF2 := Lib.hid (fun (W' : World) (hb : Below W3.heap.size W3 W') => after_does2 x0 x1 hb6 hb)
  have HT := Lib.hid hT
  clear hT hb6 KW AFT hv3 y0 y1 yf x2 p1
  go_upto_region 9 with fail
  go_region_held3 (fun W => W.cell? ⟨X, 0, Option.none⟩ = some (.int .i64 L'.last) ∧ W.cell? ⟨X, 1, Option.none⟩ = some (.slice A2 n2 c2)) (go_keep) ((go_at_call 31; refine (SM.out _ (by first | exact below_drew (Below.refl _ _) | exact below_drew (below_drew (Below.refl _ _)))).mono ?_; rintro e W4 ⟨rfl, b4⟩; have b34 := below_then (below_drew (Below.refl W3.heap.size W3)) (Nat.le_refl _) b4; obtain ⟨⟨a0, a1⟩, ⟨y0, y1, yf⟩, hb6⟩ := AF2.out W4 b34; have B6 := Lib.hid (And.intro b34 hb6); clear b4 b34 hb6))
  all_goals
    go_wp2
    have E := Lib.hid (done_end HS.out rfl R1.out.2.2.1 R1.out.1 HV.out R1.out.2.2.2 R1.out.2.1 (by rw [HXX.out]; exact HB2.out) (HT.out.below B6.out.1) B6.out.2)
    have o1 := ((B6.out.2.set_ 0 (.int .i64 L'.last)).set_ 1 (.slice A2 n2 c2)).eq (cs' := #[.int .i64 L'.last, .slice A2 n2 c2]) (by simp)
    have t0 := o1.cell 0
    have t1 := o1.cell 1
    simp at t0 t1
    exact bodyPost_ret (v := .tuple #[refD L'.last (.slice A2 n2 c2), .bool true]) (by simp [results, Try.results35, go_sem, t0, t1]; done) rfl E.out
/-- What whatever operation makes. -/
def doR (L : Dt) (kd id : Int) (xs : List Int) (now : Int) : Dt :=
  if kd % 5 = 2 then (doubleR L id now).2.2 else if kd % 5 = 3 then (endR L id now 1).2.2 else if kd % 5 = 4 then (endR L id now 2).2.2 else (putR L xs now).2.2
theorem does_calls {w0 w : World} {g mb : Nat} {fv : Value} {m : Int → Option Value} {L : Dt} {cs : List Cp} {v : Value} (hS : St w0 w g mb fv m L) (hr : RowOf 124 5 encP w v cs) (hA : Agree w0 L cs) (hl : L.fates.length < 1000000) (kd id now dt : Int) (rv : Value) (xs : List Int) (hs : Byt.Src w0 rv xs) (hx : xs.length ≤ 9223372036854775807) (hi : Fits id) (hk0 : 0 ≤ kd) :
    Calls Try.prog 35 #[.pointer (some ⟨g, 0, Option.none⟩), refD L.last v, .agg #[.int .u8 kd, .int .i64 id, rv, .int .i64 dt], .int .i64 now] w (DoneD w0 w g mb fv v (doR L kd id xs now)) := by
  unfold doR
  by_cases h2 : kd % 5 = 2
  · rw [if_pos h2]; exact does_double hS hr hA hl kd id now dt rv hi h2 hk0
  · rw [if_neg h2]
    by_cases h3 : kd % 5 = 3
    · rw [if_pos h3]; exact does_take hS hr hA hl kd id now dt rv hi h3 hk0
    · rw [if_neg h3]
      by_cases h4 : kd % 5 = 4
      · rw [if_pos h4]; exact does_drop hS hr hA hl kd id now dt rv hi h4 hk0
      · rw [if_neg h4]; exact does_put hS hr hA hl kd id now dt rv xs hs hx (kd % 5) (by omega) rfl hk0
end Go.Proofs.Ytiphkgkhfomcaaa.Duct
