/- The walk of WindowLifts. -/
import Derived.Test.YthafjgaleonbgaaWinDo
namespace Go.Proofs.Ythafjgaleonbgaa.Window
open Go.RowKit Go.OpenShut Go.Proofs.Ythafjgaleonbgaa.Aid
attribute [local go_sem] max_2 min_2 max2_i min2_i
structure Op where
  kind : Int
  a : Int
  b : Int
deriving Inhabited
def encOp (o : Op) : List Value := [.int .u8 o.kind, .int .i64 o.a, .int .i64 o.b]
def WfOp (o : Op) : Prop := 0 ≤ o.kind ∧ o.kind ≤ 255
theorem act_ok (s : Win) (k a b : Int) (h : Ok s) : Ok (act s k a b) := by
  unfold act
  split
  · exact cut_ok s a h
  split
  · exact set_ok s a h
  split
  · obtain ⟨o1, o2, o3, o4, o5, o6, o7, o8, o9, o10⟩ := h
    exact ⟨o1, o2, o3, o4, Int.le_refl _, o3, o7, o8, o9, o10⟩
  split
  · exact lift_ok s a b h
  · exact grow0_ok s a h
theorem zero_xb : XB zeroWin := by unfold XB zeroWin; simp
theorem cellAt {w : World} {A : Option Addr} {l : List Op} (h : Reps w A 3 encOp l) {k : Nat} {x : Op} (hx : l[k]? = some x) :
    ∃ ad, A = some ad ∧ w.cell? (ad.add (k * 3)) = some (.int .u8 x.kind) ∧ w.cell? ⟨(ad.add (k * 3)).block, (ad.add (k * 3)).off + 1, none⟩ = some (.int .i64 x.a) ∧ w.cell? ⟨(ad.add (k * 3)).block, (ad.add (k * 3)).off + 2, none⟩ = some (.int .i64 x.b) := by
  obtain ⟨ad, e, _, hc⟩ := h k x hx
  refine ⟨ad, e, hc 0 _ rfl, ?_, ?_⟩
  · rw [← add_next ad (k * 3) 1 (by omega)]; exact hc 1 _ rfl
  · rw [← add_next ad (k * 3) 2 (by omega)]; exact hc 2 _ rfl
set_option maxRecDepth 100000 in
set_option maxHeartbeats 4000000 in
theorem lifts_walk (mss start most : Int) (A : Option Addr) (c : Nat) (l : List Op) (a b : Int) (w : World) (hn : l.length ≤ maxLen) (hw : ∀ o ∈ l, WfOp o) (hr : Reps w A 3 encOp l) :
    Calls Try.prog 4 #[.int .i64 mss, .int .i64 start, .int .i64 most, .slice A l.length c, .int .i64 a, .int .i64 b] w (Yes w) := by
  unfold maxLen at hn
  have R := Lib.hid hr
  have HW := Lib.hid hw
  clear hr hw
  by_cases hb : Right mss start most
  · have NW := Lib.hid (fun (W : World) => new_ok mss start most W hb)
    have RT := Lib.hid hb
    clear hb
    go_enter Try.func4, Try.ntmps4
    go_wp2_with fail
    refine (known_calls _).mono ?_
    rintro e w1 ⟨rfl, b1⟩
    have B1 := Lib.hid b1
    clear b1
    go_wp2_with fail
    refine (NW.out w1).mono ?_
    rintro e w2 ⟨rfl, p2, b2, s2⟩
    have K0 : Hid (IsWin w2 w1.heap.size ⟨mss, most, start, most, 0⟩ ∧ Ok ⟨mss, most, start, most, 0⟩ ∧ Below w.heap.size w w2) := Lib.hid ⟨p2, by obtain ⟨o1, o2, o3, o4, o5, o6⟩ := RT.out; unfold Ok; simp only; omega, below_then B1.out B1.out.size b2⟩
    have hwg : w.heap.size ≤ w1.heap.size := B1.out.size
    generalize w1.heap.size = g at *
    clear p2 b2 B1 NW RT w1
    go_wp2_with fail
    go_loopw [15] (fun i wr => ∃ (k : Nat) (s : Win), k ≤ l.length ∧ k ≤ 100 ∧ i = .int .i64 k ∧ Hid (IsWin wr g s ∧ Ok s ∧ Below w.heap.size w wr)) (fun i _ => 100 - (intOf i).toNat)
    case atStart => exact ⟨0, _, by omega, by omega, rfl, K0⟩
    case round =>
      obtain ⟨k, s, hk, hk2, rfl, hK⟩ := hrel
      clear K0
      by_cases hlt : k < l.length
      · by_cases hlt2 : k < 100
        · obtain ⟨x, hx⟩ : ∃ x, l[k]? = some x := ⟨_, List.getElem?_eq_getElem hlt⟩
          obtain ⟨ad, hA, k0, k1, k2⟩ := cellAt (R.out.below hK.out.2.2) hx
          subst hA
          obtain ⟨x0, x1⟩ := HW.out x (List.mem_of_getElem? hx)
          have C := Lib.hid (does_calls g s zeroWin x.kind x.a x.b wr hK.out.1 hK.out.2.1 zero_xb x0 x1)
          simp only [zeroWin] at C
          clear hx
          go_wp2_with fail
          refine C.out.mono ?_
          rintro e w5 ⟨rfl, h5, g5⟩
          have K5 : Hid (IsWin w5 g (act s x.kind x.a x.b) ∧ Ok (act s x.kind x.a x.b) ∧ Below w.heap.size w w5) := Lib.hid ⟨h5, act_ok _ _ _ _ hK.out.2.1, below_grown hK.out.2.2 hK.out.2.2.size g5 hwg⟩
          clear h5 g5 C k0 k1 k2
          go_wp2
          go_roundw
          case rel => exact ⟨k + 1, _, by omega, by omega, by go_num, K5⟩
          case measure => simp [intOf]; omega
        · have H := Lib.hid hK.out.1
          have B := Lib.hid hK.out.2.2
          have OK := hK.out.2.1
          have L := Lib.hid (fun (W : World) (h : IsWin W g s) => lift_calls g s a b W h)
          obtain ⟨q, hq⟩ : ∃ q, q = lift s a b := ⟨_, rfl⟩
          have f1 : s.cwnd ≤ q.cwnd := by rw [hq]; unfold lift; obtain ⟨o1, o2, o3, o4, o5, o6, o7, o8, o9, o10⟩ := OK; simp only; omega
          have f2 : q.cwnd ≤ max a s.cwnd := by rw [hq]; unfold lift; simp only; omega
          have f3 : s.thresh ≤ q.thresh := by rw [hq]; unfold lift; obtain ⟨o1, o2, o3, o4, o5, o6, o7, o8, o9, o10⟩ := OK; simp only; omega
          have f4 : q.thresh ≤ max b s.thresh := by rw [hq]; unfold lift; simp only; omega
          rw [← hq] at L
          clear hq OK hK
          go_wp2_with fail
          refine (cwnd_calls g s _ H.out).mono ?_
          rintro e w6 ⟨rfl, rfl⟩
          go_wp2_with fail
          refine (thresh_calls g s _ H.out).mono ?_
          rintro e w6 ⟨rfl, rfl⟩
          go_wp2_with fail
          refine (L.out _ H.out).mono ?_
          rintro e w6 ⟨rfl, h6, g6⟩
          have H6 := Lib.hid h6
          have B6 := Lib.hid (below_grown B.out B.out.size g6 hwg)
          clear h6 g6 L H B
          go_wp2_with fail
          refine (cwnd_calls g q _ H6.out).mono ?_
          rintro e w7 ⟨rfl, rfl⟩
          go_wp2_with fail
          refine (cwnd_calls g q _ H6.out).mono ?_
          rintro e w7 ⟨rfl, rfl⟩
          go_wp2_with fail
          refine (thresh_calls g q _ H6.out).mono ?_
          rintro e w7 ⟨rfl, rfl⟩
          go_wp2_with fail
          refine (thresh_calls g q _ H6.out).mono ?_
          rintro e w7 ⟨rfl, rfl⟩
          go_wp2_with fail
          refine (known_calls _).mono ?_
          rintro e w8 ⟨rfl, b8⟩
          go_wp2
          go_ret
          exact ⟨rfl, below_then B6.out B6.out.size b8⟩
      · have H := Lib.hid hK.out.1
        have B := Lib.hid hK.out.2.2
        have OK := hK.out.2.1
        have L := Lib.hid (fun (W : World) (h : IsWin W g s) => lift_calls g s a b W h)
        obtain ⟨q, hq⟩ : ∃ q, q = lift s a b := ⟨_, rfl⟩
        have f1 : s.cwnd ≤ q.cwnd := by rw [hq]; unfold lift; obtain ⟨o1, o2, o3, o4, o5, o6, o7, o8, o9, o10⟩ := OK; simp only; omega
        have f2 : q.cwnd ≤ max a s.cwnd := by rw [hq]; unfold lift; simp only; omega
        have f3 : s.thresh ≤ q.thresh := by rw [hq]; unfold lift; obtain ⟨o1, o2, o3, o4, o5, o6, o7, o8, o9, o10⟩ := OK; simp only; omega
        have f4 : q.thresh ≤ max b s.thresh := by rw [hq]; unfold lift; simp only; omega
        rw [← hq] at L
        clear hq OK hK
        go_wp2_with fail
        refine (cwnd_calls g s _ H.out).mono ?_
        rintro e w6 ⟨rfl, rfl⟩
        go_wp2_with fail
        refine (thresh_calls g s _ H.out).mono ?_
        rintro e w6 ⟨rfl, rfl⟩
        go_wp2_with fail
        refine (L.out _ H.out).mono ?_
        rintro e w6 ⟨rfl, h6, g6⟩
        have H6 := Lib.hid h6
        have B6 := Lib.hid (below_grown B.out B.out.size g6 hwg)
        clear h6 g6 L H B
        go_wp2_with fail
        refine (cwnd_calls g q _ H6.out).mono ?_
        rintro e w7 ⟨rfl, rfl⟩
        go_wp2_with fail
        refine (cwnd_calls g q _ H6.out).mono ?_
        rintro e w7 ⟨rfl, rfl⟩
        go_wp2_with fail
        refine (thresh_calls g q _ H6.out).mono ?_
        rintro e w7 ⟨rfl, rfl⟩
        go_wp2_with fail
        refine (thresh_calls g q _ H6.out).mono ?_
        rintro e w7 ⟨rfl, rfl⟩
        go_wp2_with fail
        refine (known_calls _).mono ?_
        rintro e w8 ⟨rfl, b8⟩
        go_wp2
        go_ret
        exact ⟨rfl, below_then B6.out B6.out.size b8⟩
  · have NW := Lib.hid (fun (W : World) => new_bad mss start most W hb)
    clear hb
    go_enter Try.func4, Try.ntmps4
    go_wp2_with fail
    refine (known_calls _).mono ?_
    rintro e w1 ⟨rfl, b1⟩
    have B1 := Lib.hid b1
    clear b1
    go_wp2_with fail
    refine (NW.out w1).mono ?_
    rintro e w2 ⟨rfl, rfl⟩
    go_wp2_with fail
    refine (known_calls _).mono ?_
    rintro e w3 ⟨rfl, b3⟩
    go_wp2
    go_ret
    exact ⟨rfl, below_then B1.out B1.out.size b3⟩
end Go.Proofs.Ythafjgaleonbgaa.Window
