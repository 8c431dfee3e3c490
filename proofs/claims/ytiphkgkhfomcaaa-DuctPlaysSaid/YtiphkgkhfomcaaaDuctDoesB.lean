/- Chapter 25 (duct): does: Double, Put. -/
import Derived.Test.YtiphkgkhfomcaaaDuctDoesA
import Derived.Deep.DeepCutAuto
import Derived.Deep.RegionHeld3
import Derived.Deep.DrawnRows
set_option linter.unusedSimpArgs false
set_option linter.unusedVariables false
attribute [local go_sem ↓] Go.wp_at_zero Go.wp_at_succ
namespace Go.Proofs.Ytiphkgkhfomcaaa.Duct
open Go.BigFrame Go.RowKit Go.OpenShut Go.Proofs.Ytiphkgkhfomcaaa.Aid Go.Proofs.Ytiphkgkhfomcaaa.DMap Go.Proofs.Ytiphkgkhfomcaaa.Byt
/-- The three boxes at does' door. -/
structure DoorD (W : World) (H : Nat) (la : Int) (v : Value) (kd id : Int) (rv : Value) (dt : Int) : Prop where
  b4 : Blk W H 76 #[.int .i64 la, v]
  b5 : Blk W (H + 1) 63 #[.int .u8 kd, .int .i64 id, rv, .int .i64 dt]
  b6 : Blk W (H + 2) 76 #[.int .i64 0, nilS]
theorem DoorD.below {W W' : World} {H : Nat} {la : Int} {v : Value} {kd id : Int} {rv : Value} {dt : Int} (h : DoorD W H la v kd id rv dt) (hb : Below W.heap.size W W') : DoorD W' H la v kd id rv dt := ⟨h.b4.below hb h.b4.lt, h.b5.below hb h.b5.lt, h.b6.below hb h.b6.lt⟩
theorem DoorD.keeps {w W W' : World} {la : Int} {v : Value} {kd id : Int} {rv : Value} {dt : Int} {g mb : Nat} {fv : Value} {m : Int → Option Value} {L : Dt} (h : DoorD W w.heap.size la v kd id rv dt) (hd : IsDuct w g mb fv m L) (hk : Keeps W W' g mb fv) : DoorD W' w.heap.size la v kd id rv dt :=
  ⟨(keeps_new hd hk _ (by omega) h.b4.lt).trans h.b4, (keeps_new hd hk _ (by omega) h.b5.lt).trans h.b5, (keeps_new hd hk _ (by omega) h.b6.lt).trans h.b6⟩
abbrev doorW (w : World) (la : Int) (v : Value) (kd id : Int) (rv : Value) (dt : Int) : World := ((w.alloc (.cells #[.int .i64 la, v] 76)).alloc (.cells #[.int .u8 kd, .int .i64 id, rv, .int .i64 dt] 63)).alloc (.cells #[.int .i64 0, nilS] 76)
theorem doorD_new (w : World) (la : Int) (v : Value) (kd id : Int) (rv : Value) (dt : Int) : DoorD (doorW w la v kd id rv dt) w.heap.size la v kd id rv dt ∧ Below w.heap.size w (doorW w la v kd id rv dt) ∧ (doorW w la v kd id rv dt).heap.size = w.heap.size + 3 := by
  have h2 := Blk.new (w.alloc (.cells #[.int .i64 la, v] 76)) 63 #[.int .u8 kd, .int .i64 id, rv, .int .i64 dt]
  have h3 := Blk.new ((w.alloc (.cells #[.int .i64 la, v] 76)).alloc (.cells #[.int .u8 kd, .int .i64 id, rv, .int .i64 dt] 63)) 76 #[.int .i64 0, nilS]
  simp only [World.size_alloc] at h2 h3
  exact ⟨⟨((Blk.new w 76 _).alloc _).alloc _, h2.alloc _, h3⟩, (((Below.refl _ w).alloc (Nat.le_refl _) _).alloc (by simp) _).alloc (by simp; omega) _, by simp⟩
/-- Behind the duct's own call: what is read. -/
theorem after_does {w W W' : World} {la la' : Int} {v v' : Value} {kd id : Int} {rv : Value} {dt : Int} {g mb X : Nat} {fv : Value} {m : Int → Option Value} {L : Dt} (h : DoorD W w.heap.size la v kd id rv dt) (hX : Blk W X 76 #[.int .i64 la', v']) (hd : IsDuct w g mb fv m L) (hwX : w.heap.size ≤ X) (hk : Keeps W W' g mb fv) :
    (W'.cell? ⟨X, 0, Option.none⟩ = some (.int .i64 la') ∧ W'.cell? ⟨X, 1, Option.none⟩ = some v' ∧ W'.cell? ⟨w.heap.size + 1, 1, Option.none⟩ = some (.int .i64 id)) ∧ (W'.cell? ⟨w.heap.size + 2, 0, Option.none⟩ = some (.int .i64 0) ∧ W'.cell? ⟨w.heap.size + 2, 1, Option.none⟩ = some nilS ∧ (∀ i, W'.frozen? ⟨w.heap.size + 2, i, Option.none⟩ = false)) ∧ Blk W' (w.heap.size + 2) 76 #[.int .i64 0, nilS] := by
  have d' := h.keeps hd hk
  have hX' : Blk W' X 76 #[.int .i64 la', v'] := (keeps_new hd hk X hwX hX.lt).trans hX
  have e0 := hX'.cell 0
  have e1 := hX'.cell 1
  have e2 := d'.b5.cell 1
  have e3 := d'.b6.cell 0
  have e4 := d'.b6.cell 1
  simp at e0 e1 e2 e3 e4
  exact ⟨⟨e0, e1, e2⟩, ⟨e3, e4, d'.b6.frozen⟩, d'.b6⟩
set_option maxRecDepth 100000 in
set_option maxHeartbeats 4000000 in
theorem does_double {w0 w : World} {g mb : Nat} {fv : Value} {m : Int → Option Value} {L : Dt} {cs : List Cp} {v : Value} (hS : St w0 w g mb fv m L) (hr : RowOf 124 5 encP w v cs) (hA : Agree w0 L cs) (hl : L.fates.length < 1000000) (kd id now dt : Int) (rv : Value) (hi : Fits id) (hk : kd % 5 = 2) (hk0 : 0 ≤ kd) :
    Calls Try.prog 35 #[.pointer (some ⟨g, 0, Option.none⟩), refD L.last v, .agg #[.int .u8 kd, .int .i64 id, rv, .int .i64 dt], .int .i64 now] w (DoneD w0 w g mb fv v (doubleR L id now).2.2) := by
  have RS := Lib.hid (rdouble_to hr hA hl id now)
  have KS := Lib.hid (double_to hS hl id now hi)
  have HS := Lib.hid hS
  have HV := Lib.hid (fun k (hk : v.ownBlock = some k) => (And.intro (hr.lt k hk) (row_far hS.d hr k hk)))
  obtain ⟨Av, nv, cv, rfl⟩ := hr.some_slice
  have D0 := Lib.hid (doorD_new w L.last (.slice Av nv cv) kd id rv dt)
  have hkk : kd.tmod 5 = 2 := by rw [Int.tmod_eq_emod_of_nonneg hk0]; exact hk
  clear hS hr hA hk hk0 hi
  generalize doubleR L id now = R at *
  obtain ⟨n, er, L'⟩ := R
  simp only at RS KS
  go_enter Try.func35, Try.ntmps35
  go_wp2_with fail
  refine (RS.out _ D0.out.2.1).mono ?_
  rintro e W1 ⟨v', cs', r1, rfl, rfl, r1, a1, b1, o1⟩
  obtain ⟨A2, n2, c2, rfl⟩ := r1.some_slice
  have hs0 := D0.out.2.2
  have hs1 := b1.size
  have bW1 := below_then D0.out.2.1 D0.out.2.1.size b1
  have d1 := D0.out.1.below b1
  have R1 := Lib.hid (And.intro r1 (And.intro a1 (And.intro bW1 (fun k hk => (o1 k hk).imp (fun x => x) (fun e => show w.heap.size + 2 < k by omega)))))
  clear r1 a1 o1 b1 RS
  go_upto_region 4 with fail
  have b2 : Below W1.heap.size W1 (W1.alloc (.cells #[.int .i64 L'.last, .slice A2 n2 c2] 76)) := (Below.refl _ W1).alloc (Nat.le_refl _) _
  have hX := Blk.new W1 76 #[.int .i64 L'.last, .slice A2 n2 c2]
  have d2 := d1.below b2
  have hsz2 : (W1.alloc (.cells #[.int .i64 L'.last, .slice A2 n2 c2] 76)).heap.size = W1.heap.size + 1 := World.size_alloc _ _
  revert b2 hX d2 hsz2
  generalize W1.alloc (.cells #[.int .i64 L'.last, .slice A2 n2 c2] 76) = W2
  intro b2 hX d2 hsz2
  generalize hXX : W1.heap.size = X at *
  have p1 := d2.b5.cell 1
  simp at p1
  have HXX := Lib.hid hXX
  have AFT := Lib.hid (fun (W' : World) (k3 : Keeps W2 W' g mb fv) => after_does d2 hX HS.out.d (by omega) k3)
  have KW := Lib.hid (KS.out W2 (below_then bW1 bW1.size (by rw [hXX]; exact b2)))
  have HB2 := Lib.hid b2
  clear d1 d2 hX KS b2 hXX hsz2 bW1 hs1 hs0
  go_wp2_with fail
  refine KW.out.mono ?_
  rintro e W3 ⟨rfl, hT⟩
  obtain ⟨⟨x0, x1, x2⟩, ⟨y0, y1, yf⟩, hb6⟩ := AFT.out W3 (by obtain ⟨_, _, _, hk, _⟩ := hT; exact hk)
  have E := Lib.hid (done_end HS.out rfl R1.out.2.2.1 R1.out.1 HV.out R1.out.2.2.2 R1.out.2.1 (by rw [HXX.out]; exact HB2.out) hT hb6)
  have o1 := ((hb6.set_ 0 (.int .i64 L'.last)).set_ 1 (.slice A2 n2 c2)).eq (cs' := #[.int .i64 L'.last, .slice A2 n2 c2]) (by simp)
  have t0 := o1.cell 0
  have t1 := o1.cell 1
  simp at t0 t1
  clear hT hb6 o1 KW AFT
  go_wp2
  exact bodyPost_ret (v := .tuple #[refD L'.last (.slice A2 n2 c2), .bool true]) (by simp [results, Try.results35, go_sem, t0, t1]; done) rfl E.out
set_option maxRecDepth 100000 in
set_option maxHeartbeats 4000000 in
theorem does_put {w0 w : World} {g mb : Nat} {fv : Value} {m : Int → Option Value} {L : Dt} {cs : List Cp} {v : Value} (hS : St w0 w g mb fv m L) (hr : RowOf 124 5 encP w v cs) (hA : Agree w0 L cs) (hl : L.fates.length < 1000000) (kd id now dt : Int) (rv : Value) (xs : List Int) (hs : Byt.Src w0 rv xs) (hx : xs.length ≤ 9223372036854775807) (q : Int) (hq : q = 0 ∨ q = 1) (hk : kd % 5 = q) (hk0 : 0 ≤ kd) :
    Calls Try.prog 35 #[.pointer (some ⟨g, 0, Option.none⟩), refD L.last v, .agg #[.int .u8 kd, .int .i64 id, rv, .int .i64 dt], .int .i64 now] w (DoneD w0 w g mb fv v (putR L xs now).2.2) := by
  have RS := Lib.hid (rput_to hr hA hl hs now)
  have KS := Lib.hid (put_to hS hl hs hx now)
  have HS := Lib.hid hS
  have HV := Lib.hid (fun k (hk : v.ownBlock = some k) => (And.intro (hr.lt k hk) (row_far hS.d hr k hk)))
  obtain ⟨Av, nv, cv, rfl⟩ := hr.some_slice
  have D0 := Lib.hid (doorD_new w L.last (.slice Av nv cv) kd id rv dt)
  have hkk : kd.tmod 5 = q := by rw [Int.tmod_eq_emod_of_nonneg hk0]; exact hk
  have hq2 : ¬ q = 2 := by omega
  have hq3 : ¬ q = 3 := by omega
  have hq4 : ¬ q = 4 := by omega
  obtain ⟨Ar, cr, rfl, _⟩ := hs.is
  clear hS hr hA hk hk0 hs hx hq
  generalize putR L xs now = R at *
  obtain ⟨n, er, L'⟩ := R
  simp only at RS KS
  go_enter Try.func35, Try.ntmps35
  go_wp2_with fail
  refine (RS.out _ D0.out.2.1).mono ?_
  rintro e W1 ⟨v', cs', r1, rfl, rfl, r1, a1, b1, o1⟩
  obtain ⟨A2, n2, c2, rfl⟩ := r1.some_slice
  have hs0 := D0.out.2.2
  have hs1 := b1.size
  have bW1 := below_then D0.out.2.1 D0.out.2.1.size b1
  have d1 := D0.out.1.below b1
  have R1 := Lib.hid (And.intro r1 (And.intro a1 (And.intro bW1 (fun k hk => (o1 k hk).imp (fun x => x) (fun e => show w.heap.size + 2 < k by omega)))))
  clear r1 a1 o1 b1 RS
  go_upto_region 14 with fail
  have b2 : Below W1.heap.size W1 (W1.alloc (.cells #[.int .i64 L'.last, .slice A2 n2 c2] 76)) := (Below.refl _ W1).alloc (Nat.le_refl _) _
  have hX := Blk.new W1 76 #[.int .i64 L'.last, .slice A2 n2 c2]
  have d2 := d1.below b2
  have hsz2 : (W1.alloc (.cells #[.int .i64 L'.last, .slice A2 n2 c2] 76)).heap.size = W1.heap.size + 1 := World.size_alloc _ _
  revert b2 hX d2 hsz2
  generalize W1.alloc (.cells #[.int .i64 L'.last, .slice A2 n2 c2] 76) = W2
  intro b2 hX d2 hsz2
  generalize hXX : W1.heap.size = X at *
  have p1 := d2.b5.cell 2
  simp at p1
  have HXX := Lib.hid hXX
  have AFT := Lib.hid (fun (W' : World) (k3 : Keeps W2 W' g mb fv) => after_does d2 hX HS.out.d (by omega) k3)
  have KW := Lib.hid (KS.out W2 (below_then bW1 bW1.size (by rw [hXX]; exact b2)))
  have HB2 := Lib.hid b2
  clear d1 d2 hX KS b2 hXX hsz2 bW1 hs1 hs0
  go_wp2_with fail
  refine KW.out.mono ?_
  rintro e W3 ⟨rfl, hT⟩
  obtain ⟨⟨x0, x1, x2⟩, ⟨y0, y1, yf⟩, hb6⟩ := AFT.out W3 (by obtain ⟨_, _, _, hk, _⟩ := hT; exact hk)
  have E := Lib.hid (done_end HS.out rfl R1.out.2.2.1 R1.out.1 HV.out R1.out.2.2.2 R1.out.2.1 (by rw [HXX.out]; exact HB2.out) hT hb6)
  have o1 := ((hb6.set_ 0 (.int .i64 L'.last)).set_ 1 (.slice A2 n2 c2)).eq (cs' := #[.int .i64 L'.last, .slice A2 n2 c2]) (by simp)
  have t0 := o1.cell 0
  have t1 := o1.cell 1
  simp at t0 t1
  clear hT hb6 o1 KW AFT
  go_wp2
  exact bodyPost_ret (v := .tuple #[refD L'.last (.slice A2 n2 c2), .bool true]) (by simp [results, Try.results35, go_sem, t0, t1]; done) rfl E.out
end Go.Proofs.Ytiphkgkhfomcaaa.Duct
