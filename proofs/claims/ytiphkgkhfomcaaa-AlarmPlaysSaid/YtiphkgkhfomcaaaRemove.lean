/- Chapter 13 (alarm): the library's Remove and Push; drop. -/
import Derived.Test.YtiphkgkhfomcaaaSift
set_option linter.unusedSimpArgs false
set_option linter.unusedVariables false
attribute [local go_sem ↓] Go.wp_at_zero Go.wp_at_succ
namespace Go.Proofs.Ytiphkgkhfomcaaa.Alarm
open Go.BigFrame Go.RowKit Go.OpenShut Go.Proofs.Ytiphkgkhfomcaaa.Aid Go.Proofs.Ytiphkgkhfomcaaa.DMap Go.Proofs.Ytiphkgkhfomcaaa.Heap
/-- What comes of a call that turns the alarms. -/
def Removed (w : World) (R mb : Nat) (fv : Value) (l : List Ring) (nm : Nat) (w' : World) : Prop :=
  ∃ fv' m' l', IsRings w' R mb fv' m' l' ∧ Kp (rb R mb fv) w w' ∧ (∀ k, fv'.ownBlock = some k → fv.ownBlock = some k ∨ w.heap.size ≤ k) ∧ l'.length + 1 = l.length ∧ Heap (g l') l'.length ∧ ∀ A, Rep l A → Rep l' (A.set nm (-1))
theorem rb_step {R mb : Nat} {fv fv' : Value} {n : Nat} (h : ∀ k, fv'.ownBlock = some k → fv.ownBlock = some k ∨ n ≤ k) : ∀ j, rb R mb fv' j → rb R mb fv j ∨ n ≤ j := fun j hj => by
  rcases hj with rfl | rfl | hj
  · exact .inl (.inl rfl)
  · exact .inl (.inr (.inl rfl))
  · exact (h j hj).imp (fun h => .inr (.inr h)) id
theorem removed_pop {w w4 w5 : World} {R mb n nm : Nat} {fv r : Value} {e : Ending} {m4 : Int → Option Value} {l l4 : List Ring} (hn : l.length = n + 1) (h4 : IsRings w4 R mb fv m4 l4) (hk : Kp (rb R mb fv) w w4) (hl : l4.length = n + 1) (hh : Heap (g l4) n) (hr : ∀ A, Rep l A → Rep l4 A) (hnm : (g l4 n).name = nm)
    (ht : Turned w4 R mb fv (l4.take n) r e w5) : Removed w R mb fv l nm w5 := by
  obtain ⟨_, fv', m', h1, h2, h3⟩ := ht
  have hl2 : (l4.take n).length = n := by simp; omega
  exact ⟨fv', m', _, h1, hk.trans h2 (fun _ h => .inl h), fun k hk2 => (h3 k hk2).imp id (fun h => Nat.le_trans hk.size h), by omega, by rw [hl2]; exact hh.same (fun k hk => g_take hk), fun A hA => rep_pop h4.plc (hr A hA) hl hnm⟩
set_option maxRecDepth 100000 in
set_option maxHeartbeats 4000000 in
theorem remove_calls (R mb : Nat) (fv : Value) (m : Int → Option Value) (l : List Ring) (i nm : Nat) (w : World) (h : IsRings w R mb fv m l) (hi : i < l.length) (hp : Heap (g l) l.length) (hnm : (g l i).name = nm) :
    Calls Try.prog 64 #[.iface 89 (.pointer (some ⟨R, 0, Option.none⟩)), .int .i64 i] w (fun e w' => (∃ r, e = .returned r) ∧ Removed w R mb fv l nm w') := by
  obtain ⟨n, hn⟩ : ∃ n, l.length = n + 1 := ⟨l.length - 1, by omega⟩
  have hlen := h.len
  have ml := m_len
  have ms := m_swap
  have mp := m_pop
  have KL := Lib.hid (rlen_calls R mb fv m l w h)
  rw [hn] at KL
  by_cases he : i = n
  · subst he
    have KP := Lib.hid (fun (W : World) (hw : W = w) => by
      subst hw
      exact (pop_calls R mb fv m l i W h hn).mono fun e w' ht => And.intro ht.1 (removed_pop hn h (Kp.refl _ W) hn (by rw [hn] at hp; exact hp.less (by omega)) (fun _ h => h) hnm ht))
    clear h hp
    go_enter Try.func64, Try.ntmps64
    go_wp2_with fail
    refine KL.out.mono ?_
    rintro e w1 ⟨rfl, rfl⟩
    go_wp2_with fail
    refine (KP.out _ rfl).mono ?_
    rintro e w2 ⟨rfl, hR⟩
    have HR := Lib.hid hR
    clear hR
    go_wp2
    go_ret
    exact ⟨⟨_, rfl⟩, HR.out⟩
  · have hin : i < n := by omega
    have hne : ¬ ((n : Int) = (i : Int)) := by omega
    have KS := Lib.hid (swap_calls R mb fv m l i n w h hi (by omega) he)
    have S := swap_sw (l := l) (i := i) (j := n) (by omega) (by omega)
    rw [hn] at hp
    have HB := Lib.hid (heap_last hp S hin)
    have hgn : (g (swap l i n) n).name = nm := by rw [S.b]; exact hnm
    have hsl : (swap l i n).length = n + 1 := by rw [swap_length, hn]
    have HRP := Lib.hid (fun (A : List Int) (hA : Rep l A) => rep_swap (i := i) (j := n) hA (by omega) (by omega))
    clear h hp
    go_enter Try.func64, Try.ntmps64
    go_wp2_with fail
    refine KL.out.mono ?_
    rintro e w1 ⟨rfl, rfl⟩
    go_wp2_with fail
    refine KS.out.mono ?_
    rintro e w2 ⟨rfl, ⟨m2, r2⟩, k2⟩
    have R2 := Lib.hid r2
    have K2 := Lib.hid k2
    clear r2 k2 KS S
    go_wp2_with fail
    refine (down_calls R mb fv m2 (swap l i n) i n w2 R2.out hin (by omega) HB.out).mono ?_
    rintro e w3 ⟨bv, rfl, m3, l3, S3, hT, hF⟩
    cases bv with
    | true =>
      have l3l := S3.like.len
      have KP := Lib.hid (fun (W : World) (hw : W = w3) => by
        subst hw
        exact (pop_calls R mb fv m3 l3 n W S3.rings (by omega)).mono fun e w' ht => And.intro ht.1 (removed_pop hn S3.rings (K2.out.trans S3.kp (fun _ h => .inl h)) (by omega) (hT rfl) (fun A hA => S3.like.rep A (HRP.out A hA)) (by rw [S3.like.rest n (Nat.le_refl _)]; exact hgn) ht))
      clear S3 hT hF
      go_wp2_with fail
      refine (KP.out _ rfl).mono ?_
      rintro e w5 ⟨rfl, hR⟩
      have HR := Lib.hid hR
      clear hR
      go_wp2
      go_ret
      exact ⟨⟨_, rfl⟩, HR.out⟩
    | false =>
      have l3l := S3.like.len
      have KU := Lib.hid (up_calls R mb fv m3 l3 i n w3 S3.rings hin (by omega) (hF rfl))
      have HS3 := Lib.hid S3
      clear S3 hT hF
      go_wp2_with fail
      refine KU.out.mono ?_
      rintro e w4 ⟨rfl, m4, l4, S4, hH⟩
      have l4l := S4.like.len
      have KP := Lib.hid (fun (W : World) (hw : W = w4) => by
        subst hw
        exact (pop_calls R mb fv m4 l4 n W S4.rings (by omega)).mono fun e w' ht => And.intro ht.1 (removed_pop hn S4.rings ((K2.out.trans HS3.out.kp (fun _ h => .inl h)).trans S4.kp (fun _ h => .inl h)) (by omega) hH (fun A hA => S4.like.rep A (HS3.out.like.rep A (HRP.out A hA))) (by rw [S4.like.rest n (Nat.le_refl _), HS3.out.like.rest n (Nat.le_refl _)]; exact hgn) ht))
      clear S4 hH
      go_wp2_with fail
      refine (KP.out _ rfl).mono ?_
      rintro e w5 ⟨rfl, hR⟩
      have HR := Lib.hid hR
      clear hR
      go_wp2
      go_ret
      exact ⟨⟨_, rfl⟩, HR.out⟩
def Pushed (w : World) (R mb : Nat) (fv : Value) (l : List Ring) (x : Ring) (w' : World) : Prop :=
  ∃ fv' m' l', IsRings w' R mb fv' m' l' ∧ Kp (rb R mb fv) w w' ∧ (∀ k, fv'.ownBlock = some k → fv.ownBlock = some k ∨ w.heap.size ≤ k) ∧ l'.length = l.length + 1 ∧ Heap (g l') l'.length ∧ ∀ A, Rep (l ++ [x]) A → Rep l' A
set_option maxRecDepth 100000 in
set_option maxHeartbeats 4000000 in
theorem hpush_calls (R mb : Nat) (fv : Value) (m : Int → Option Value) (l : List Ring) (x : Ring) (w : World) (h : IsRings w R mb fv m l) (hp : Heap (g l) l.length) (hx : m x.name = Option.none) (hf : Fits x.name) (hl : l.length < 1000) :
    Calls Try.prog 41 #[.iface 89 (.pointer (some ⟨R, 0, Option.none⟩)), .iface 100 (ringV x)] w (fun e w' => e = .returned (.tuple #[]) ∧ Pushed w R mb fv l x w') := by
  have ml := m_len
  have mp := m_push
  have KP := Lib.hid (push_calls R mb fv m l x w h hx hf hl)
  have HU := Lib.hid (Heap.push (f' := g (l ++ [x])) hp (fun k hk => g_app_lt hk))
  have hlx : (l ++ [x]).length = l.length + 1 := by simp
  clear h hp
  go_enter Try.func41, Try.ntmps41
  go_wp2_with fail
  refine KP.out.mono ?_
  rintro e w1 ⟨rfl, fv1, m1, r1, k1, o1⟩
  have KL := Lib.hid (rlen_calls R mb fv1 m1 (l ++ [x]) w1 r1)
  have KU := Lib.hid (up_calls R mb fv1 m1 (l ++ [x]) l.length (l.length + 1) w1 r1 (by omega) (by omega) HU.out)
  rw [hlx] at KL
  have K1 := Lib.hid (And.intro k1 o1)
  clear r1 k1 o1
  generalize l.length = n at *
  go_wp2_with fail
  refine KL.out.mono ?_
  rintro e w2 ⟨rfl, rfl⟩
  go_wp2_with fail
  refine KU.out.mono ?_
  rintro e w3 ⟨rfl, m3, l3, S3, hH⟩
  have HS := Lib.hid (And.intro S3 hH)
  clear S3 hH
  go_wp2
  refine bodyPost_end (v := .tuple #[]) (by simp [results, Try.results41, go_sem]; done) rfl ⟨rfl, fv1, m3, l3, HS.out.1.rings, K1.out.1.trans HS.out.1.kp (rb_step K1.out.2), K1.out.2, ?_, ?_, fun A hA => HS.out.1.like.rep A hA⟩
  · rw [HS.out.1.like.len]; simp
  · rw [HS.out.1.like.len, hlx]; exact HS.out.2
end Go.Proofs.Ytiphkgkhfomcaaa.Alarm
