/- Chapter 13 (alarm): the library's heap: up, down. -/
import Derived.Test.YtiphkgkhfomcaaaPush
import Derived.Test.YtiphkgkhfomcaaaSwap
set_option linter.unusedSimpArgs false
set_option linter.unusedVariables false
attribute [local go_sem ↓] Go.wp_at_zero Go.wp_at_succ
namespace Go.Proofs.Ytiphkgkhfomcaaa.Alarm
open Go.BigFrame Go.RowKit Go.OpenShut Go.Proofs.Ytiphkgkhfomcaaa.Aid Go.Proofs.Ytiphkgkhfomcaaa.DMap Go.Proofs.Ytiphkgkhfomcaaa.Heap
theorem m_less (a : Option Addr) (W : World) : (method 287 89 (.pointer a) "Less").run Try.prog W = .ok (110, .pointer a) W := by kernel_rfl
theorem m_swap (a : Option Addr) (W : World) : (method 287 89 (.pointer a) "Swap").run Try.prog W = .ok (113, .pointer a) W := by kernel_rfl
theorem m_len (a : Option Addr) (W : World) : (method 287 89 (.pointer a) "Len").run Try.prog W = .ok (46, .pointer a) W := by kernel_rfl
theorem m_push (a : Option Addr) (W : World) : (method 287 89 (.pointer a) "Push").run Try.prog W = .ok (112, .pointer a) W := by kernel_rfl
theorem m_pop (a : Option Addr) (W : World) : (method 287 89 (.pointer a) "Pop").run Try.prog W = .ok (111, .pointer a) W := by kernel_rfl
structure Like (n : Nat) (l l' : List Ring) : Prop where
  len : l'.length = l.length
  rest : ∀ k, n ≤ k → g l' k = g l k
  rep : ∀ A, Rep l A → Rep l' A
theorem Like.refl (n : Nat) (l : List Ring) : Like n l l := ⟨rfl, fun _ _ => rfl, fun _ h => h⟩
theorem Like.trans {n : Nat} {a b c : List Ring} (h : Like n a b) (k : Like n b c) : Like n a c := ⟨k.len.trans h.len, fun j hj => (k.rest j hj).trans (h.rest j hj), fun A hA => k.rep A (h.rep A hA)⟩
theorem like_swap {n i j : Nat} {l : List Ring} (hi : i < n) (hj : j < n) (hn : n ≤ l.length) : Like n l (swap l i j) :=
  ⟨swap_length l i j, fun k hk => (swap_sw (by omega) (by omega)).r k (by omega) (by omega), fun A hA => rep_swap hA (by omega) (by omega)⟩
/-- What is within a sift. -/
structure Sift (w w' : World) (R mb : Nat) (fv : Value) (l l' : List Ring) (m' : Int → Option Value) (n : Nat) : Prop where
  rings : IsRings w' R mb fv m' l'
  kp : Kp (rb R mb fv) w w'
  like : Like n l l'
theorem Sift.below {w w1 w2 : World} {R mb : Nat} {fv : Value} {l l' : List Ring} {m' : Int → Option Value} {n : Nat} (h : Sift w w1 R mb fv l l' m' n) (hb : Below w1.heap.size w1 w2) : Sift w w2 R mb fv l l' m' n := ⟨h.rings.below hb, h.kp.below hb, h.like⟩
theorem Sift.swap {w w1 w2 : World} {R mb : Nat} {fv : Value} {l l' : List Ring} {m' m2 : Int → Option Value} {n i j : Nat} (h : Sift w w1 R mb fv l l' m' n) (hr : IsRings w2 R mb fv m2 (swap l' i j)) (hk : Kp (rb R mb fv) w1 w2) (hi : i < n) (hj : j < n) (hn : n ≤ l.length) : Sift w w2 R mb fv l (swap l' i j) m2 n :=
  ⟨hr, h.kp.trans hk (fun _ h => .inl h), h.like.trans (like_swap hi hj (by rw [h.like.len]; exact hn))⟩
theorem ltb_t {a b : Ring} (h : ltb a b = true) : lt a b := of_decide_eq_true h
theorem ltb_f {a b : Ring} (h : ltb a b = false) : ¬ lt a b := of_decide_eq_false h
def Sifted (w : World) (R mb : Nat) (fv : Value) (l : List Ring) (n : Nat) (v : Value) (P : List Ring → Prop) (e : Ending) (w' : World) : Prop := e = .returned v ∧ ∃ m' l', Sift w w' R mb fv l l' m' n ∧ P l'
set_option maxRecDepth 100000 in
set_option maxHeartbeats 4000000 in
theorem up_calls (R mb : Nat) (fv : Value) (m : Int → Option Value) (l : List Ring) (j n : Nat) (w : World) (h : IsRings w R mb fv m l) (hj : j < n) (hn : n ≤ l.length) (hu : UpI (g l) j n) :
    Calls Try.prog 65 #[.iface 89 (.pointer (some ⟨R, 0, Option.none⟩)), .int .i64 j] w (Sifted w R mb fv l n (.tuple #[]) (fun l' => Heap (g l') n)) := by
  have H := Lib.hid h
  have HU := Lib.hid hu
  have hlen := h.len
  clear h hu
  have ml := m_less
  have ms := m_swap
  go_enter Try.func65, Try.ntmps65
  go_wp2
  go_loopw [1] (fun jv wr => ∃ (jj : Nat) (m' : Int → Option Value) (l' : List Ring), jv = .int .i64 jj ∧ jj < n ∧ Hid (Sift w wr R mb fv l l' m' n ∧ UpI (g l') jj n)) (fun jv _ => (intOf jv).toNat)
  case atStart => exact ⟨j, m, l, rfl, hj, Lib.hid ⟨⟨H.out, Kp.refl _ _, Like.refl _ _⟩, HU.out⟩⟩
  case round =>
    obtain ⟨jj, m', l', rfl, hjj, hS⟩ := hrel
    clear H HU
    have hll := hS.out.1.like.len
    by_cases h0 : jj = 0
    · subst h0
      go_wp2
      exact bodyPost_end (v := .tuple #[]) (by simp [results, Try.results65, go_sem]; done) rfl ⟨rfl, m', l', hS.out.1, up_stop hS.out.2 (.inl rfl)⟩
    · obtain ⟨p, hp⟩ : ∃ p, (jj - 1) / 2 = p := ⟨_, rfl⟩
      have hd : ((jj : Int) - 1).tdiv 2 = (p : Int) := by
        rw [Int.tdiv_eq_ediv_of_nonneg (by omega)]
        omega
      have hne : ¬ ((p : Int) = (jj : Int)) := by omega
      have hL := Lib.hid (less_calls R mb fv m' l' jj p wr hS.out.1.rings (by omega) (by omega))
      cases hb : ltb (g l' jj) (g l' p) with
      | false =>
        rw [hb] at hL
        go_wp2_with fail
        refine hL.out.mono ?_
        rintro e w2 ⟨rfl, b2⟩
        have S2 := Lib.hid (hS.out.1.below b2)
        clear b2
        go_wp2
        exact bodyPost_end (v := .tuple #[]) (by simp [results, Try.results65, go_sem]; done) rfl ⟨rfl, m', l', S2.out, up_stop hS.out.2 (.inr (by rw [hp]; exact ltb_f hb))⟩
      | true =>
        rw [hb] at hL
        go_wp2_with fail
        refine hL.out.mono ?_
        rintro e w2 ⟨rfl, b2⟩
        have S2 := Lib.hid (hS.out.1.below b2)
        clear b2
        go_wp2_with fail
        refine (swap_calls R mb fv m' l' p jj w2 S2.out.rings (by omega) (by omega) (by omega)).mono ?_
        rintro e w3 ⟨rfl, ⟨m3, r3⟩, k3⟩
        have S3 := Lib.hid (S2.out.swap r3 k3 (i := p) (j := jj) (by omega) hjj hn)
        have U3 := Lib.hid (up_step hS.out.2 (by omega) hjj hp (ltb_t hb) (swap_sw (l := l') (i := p) (j := jj) (by omega) (by omega)))
        clear r3 k3
        go_wp2
        go_roundw
        case rel => exact ⟨p, m3, _, rfl, by omega, Lib.hid ⟨S3.out, U3.out⟩⟩
        case measure => simp [intOf]; omega
def Downed (w : World) (R mb : Nat) (fv : Value) (l : List Ring) (i0 n : Nat) (e : Ending) (w' : World) : Prop := ∃ bv, e = .returned (.bool bv) ∧ ∃ m' l', Sift w w' R mb fv l l' m' n ∧ (bv = true → Heap (g l') n) ∧ (bv = false → UpI (g l') i0 n)
set_option maxRecDepth 100000 in
set_option maxHeartbeats 8000000 in
theorem down_calls (R mb : Nat) (fv : Value) (m : Int → Option Value) (l : List Ring) (i0 n : Nat) (w : World) (h : IsRings w R mb fv m l) (hi : i0 < n) (hn : n ≤ l.length) (hu : Both (g l) i0 n) :
    Calls Try.prog 72 #[.iface 89 (.pointer (some ⟨R, 0, Option.none⟩)), .int .i64 i0, .int .i64 n] w (Downed w R mb fv l i0 n) := by
  have H := Lib.hid h
  have HU := Lib.hid hu
  have hlen := h.len
  clear h hu
  have ml := m_less
  have ms := m_swap
  go_enter Try.func72, Try.ntmps72
  go_wp2
  go_loopw [7] (fun iv wr => ∃ (ii : Nat) (m' : Int → Option Value) (l' : List Ring), iv = .int .i64 ii ∧ i0 ≤ ii ∧ ii < n ∧ Hid (Sift w wr R mb fv l l' m' n) ∧ Hid ((ii = i0 ∧ Both (g l') ii n) ∨ (i0 < ii ∧ DownI (g l') ii n))) (fun iv _ => n - (intOf iv).toNat)
  case atStart => exact ⟨i0, m, l, rfl, Nat.le_refl _, hi, Lib.hid ⟨H.out, Kp.refl _ _, Like.refl _ _⟩, Lib.hid (.inl ⟨rfl, HU.out⟩)⟩
  case round =>
    obtain ⟨ii, m', l', rfl, hi0, hii, hS, hD⟩ := hrel
    clear H HU
    have hll := hS.out.like.len
    obtain ⟨j1, hj1⟩ : ∃ j1, 2 * ii + 1 = j1 := ⟨_, rfl⟩
    have hd1 : 2 * (ii : Int) + 1 = (j1 : Int) := by omega
    have hnn : ¬ ((j1 : Int) < 0) := by omega
    by_cases hA : n ≤ j1
    · have hA1 : (n : Int) ≤ (j1 : Int) := by omega
      have HN := Lib.hid (show ∀ k, 0 < k → k < n → (k - 1) / 2 = ii → ¬ lt (g l' k) (g l' ii) from fun k a b c => by omega)
      rcases hD.out with ⟨he, hB⟩ | ⟨he, hB⟩
      · have hgt : ¬ ((i0 : Int) < (ii : Int)) := by omega
        have hB := Lib.hid hB
        go_wp2
        go_ret
        exact ⟨false, rfl, m', l', hS.out, (fun h => by cases h), fun _ => he ▸ both_stop hB.out HN.out⟩
      · have hgt : ((i0 : Int) < (ii : Int)) := by omega
        have hB := Lib.hid hB
        go_wp2
        go_ret
        exact ⟨true, rfl, m', l', hS.out, (fun _ => down_stop hB.out HN.out), fun h => by cases h⟩
    · have hA1 : ¬ ((n : Int) ≤ (j1 : Int)) := by omega
      obtain ⟨j2, hj2⟩ : ∃ j2, j1 + 1 = j2 := ⟨_, rfl⟩
      have hd2 : (j1 : Int) + 1 = (j2 : Int) := by omega
      by_cases hC : j2 < n
      · have hC1 : (j2 : Int) < (n : Int) := by omega
        have hL := Lib.hid (less_calls R mb fv m' l' j2 j1 wr hS.out.rings (by omega) (by omega))
        cases hb : ltb (g l' j2) (g l' j1) with
        | false =>
          rw [hb] at hL
          go_wp2_with fail
          refine hL.out.mono ?_
          rintro e w6 ⟨rfl, b6⟩
          have S6 := Lib.hid (hS.out.below b6)
          clear b6
          have HM := Lib.hid (show ∀ k, 0 < k → k < n → (k - 1) / 2 = ii → ¬ lt (g l' k) (g l' j1) from fun k a b c => by
            rcases (by omega : k = j1 ∨ k = j2) with rfl | rfl
            · unfold lt; omega
            · exact ltb_f hb)
          have hjn : (j1 : Nat) < n := by omega
          have hL2 := Lib.hid (less_calls R mb fv m' l' j1 ii w6 S6.out.rings (by omega) (by omega))
          cases hb2 : ltb (g l' j1) (g l' ii) with
          | false =>
            rw [hb2] at hL2
            go_wp2_with fail
            refine hL2.out.mono ?_
            rintro e w8 ⟨rfl, b8⟩
            have S8 := Lib.hid (S6.out.below b8)
            clear b8
            have HN := Lib.hid (show ∀ k, 0 < k → k < n → (k - 1) / 2 = ii → ¬ lt (g l' k) (g l' ii) from fun k a b c => by
              have h2 := ltb_f hb2
              have h3 := HM.out k a b c
              exact ge_trans h2 h3)
            rcases hD.out with ⟨he, hB⟩ | ⟨he, hB⟩
            · have hgt : ¬ ((i0 : Int) < (ii : Int)) := by omega
              have hB := Lib.hid hB
              go_wp2
              go_ret
              exact ⟨false, rfl, m', l', S8.out, (fun h => by cases h), fun _ => he ▸ both_stop hB.out HN.out⟩
            · have hgt : ((i0 : Int) < (ii : Int)) := by omega
              have hB := Lib.hid hB
              go_wp2
              go_ret
              exact ⟨true, rfl, m', l', S8.out, (fun _ => down_stop hB.out HN.out), fun h => by cases h⟩
          | true =>
            rw [hb2] at hL2
            go_wp2_with fail
            refine hL2.out.mono ?_
            rintro e w8 ⟨rfl, b8⟩
            have S8 := Lib.hid (S6.out.below b8)
            clear b8
            go_wp2_with fail
            refine (swap_calls R mb fv m' l' ii j1 w8 S8.out.rings (by omega) (by omega) (by omega)).mono ?_
            rintro e w9 ⟨rfl, ⟨m9, r9⟩, k9⟩
            have S9 := Lib.hid (S8.out.swap r9 k9 (i := ii) (j := j1) hii hjn hn)
            have D9 := Lib.hid (both_step (f' := g (swap l' ii j1)) (hD.out.elim (fun h => h.2) (fun h => h.2.both)) (by omega) hjn (by omega) HM.out (ltb_t hb2) (swap_sw (l := l') (i := ii) (j := j1) (by omega) (by omega)))
            clear r9 k9
            go_wp2
            go_roundw
            case rel => exact ⟨j1, m9, _, rfl, by omega, hjn, Lib.hid S9.out, Lib.hid (.inr ⟨by omega, D9.out⟩)⟩
            case measure => simp [intOf]; omega
        | true =>
          rw [hb] at hL
          go_wp2_with fail
          refine hL.out.mono ?_
          rintro e w6 ⟨rfl, b6⟩
          have S6 := Lib.hid (hS.out.below b6)
          clear b6
          have HM := Lib.hid (show ∀ k, 0 < k → k < n → (k - 1) / 2 = ii → ¬ lt (g l' k) (g l' j2) from fun k a b c => by
            rcases (by omega : k = j1 ∨ k = j2) with rfl | rfl
            · exact lt_asymm (ltb_t hb)
            · unfold lt; omega)
          have hjn : (j2 : Nat) < n := by omega
          have hL2 := Lib.hid (less_calls R mb fv m' l' j2 ii w6 S6.out.rings (by omega) (by omega))
          cases hb2 : ltb (g l' j2) (g l' ii) with
          | false =>
            rw [hb2] at hL2
            go_wp2_with fail
            refine hL2.out.mono ?_
            rintro e w8 ⟨rfl, b8⟩
            have S8 := Lib.hid (S6.out.below b8)
            clear b8
            have HN := Lib.hid (show ∀ k, 0 < k → k < n → (k - 1) / 2 = ii → ¬ lt (g l' k) (g l' ii) from fun k a b c => by
              have h2 := ltb_f hb2
              have h3 := HM.out k a b c
              exact ge_trans h2 h3)
            rcases hD.out with ⟨he, hB⟩ | ⟨he, hB⟩
            · have hgt : ¬ ((i0 : Int) < (ii : Int)) := by omega
              have hB := Lib.hid hB
              go_wp2
              go_ret
              exact ⟨false, rfl, m', l', S8.out, (fun h => by cases h), fun _ => he ▸ both_stop hB.out HN.out⟩
            · have hgt : ((i0 : Int) < (ii : Int)) := by omega
              have hB := Lib.hid hB
              go_wp2
              go_ret
              exact ⟨true, rfl, m', l', S8.out, (fun _ => down_stop hB.out HN.out), fun h => by cases h⟩
          | true =>
            rw [hb2] at hL2
            go_wp2_with fail
            refine hL2.out.mono ?_
            rintro e w8 ⟨rfl, b8⟩
            have S8 := Lib.hid (S6.out.below b8)
            clear b8
            go_wp2_with fail
            refine (swap_calls R mb fv m' l' ii j2 w8 S8.out.rings (by omega) (by omega) (by omega)).mono ?_
            rintro e w9 ⟨rfl, ⟨m9, r9⟩, k9⟩
            have S9 := Lib.hid (S8.out.swap r9 k9 (i := ii) (j := j2) hii hjn hn)
            have D9 := Lib.hid (both_step (f' := g (swap l' ii j2)) (hD.out.elim (fun h => h.2) (fun h => h.2.both)) (by omega) hjn (by omega) HM.out (ltb_t hb2) (swap_sw (l := l') (i := ii) (j := j2) (by omega) (by omega)))
            clear r9 k9
            go_wp2
            go_roundw
            case rel => exact ⟨j2, m9, _, rfl, by omega, hjn, Lib.hid S9.out, Lib.hid (.inr ⟨by omega, D9.out⟩)⟩
            case measure => simp [intOf]; omega
      · have hC1 : ¬ ((j2 : Int) < (n : Int)) := by omega
        have HM := Lib.hid (show ∀ k, 0 < k → k < n → (k - 1) / 2 = ii → ¬ lt (g l' k) (g l' j1) from fun k a b c => by
          rcases (by omega : k = j1 ∨ k = j2) with rfl | rfl
          · unfold lt; omega
          · omega)
        have hjn : (j1 : Nat) < n := by omega
        have hL2 := Lib.hid (less_calls R mb fv m' l' j1 ii wr hS.out.rings (by omega) (by omega))
        cases hb2 : ltb (g l' j1) (g l' ii) with
        | false =>
          rw [hb2] at hL2
          go_wp2_with fail
          refine hL2.out.mono ?_
          rintro e w8 ⟨rfl, b8⟩
          have S8 := Lib.hid (hS.out.below b8)
          clear b8
          have HN := Lib.hid (show ∀ k, 0 < k → k < n → (k - 1) / 2 = ii → ¬ lt (g l' k) (g l' ii) from fun k a b c => by
            have h2 := ltb_f hb2
            have h3 := HM.out k a b c
            exact ge_trans h2 h3)
          rcases hD.out with ⟨he, hB⟩ | ⟨he, hB⟩
          · have hgt : ¬ ((i0 : Int) < (ii : Int)) := by omega
            have hB := Lib.hid hB
            go_wp2
            go_ret
            exact ⟨false, rfl, m', l', S8.out, (fun h => by cases h), fun _ => he ▸ both_stop hB.out HN.out⟩
          · have hgt : ((i0 : Int) < (ii : Int)) := by omega
            have hB := Lib.hid hB
            go_wp2
            go_ret
            exact ⟨true, rfl, m', l', S8.out, (fun _ => down_stop hB.out HN.out), fun h => by cases h⟩
        | true =>
          rw [hb2] at hL2
          go_wp2_with fail
          refine hL2.out.mono ?_
          rintro e w8 ⟨rfl, b8⟩
          have S8 := Lib.hid (hS.out.below b8)
          clear b8
          go_wp2_with fail
          refine (swap_calls R mb fv m' l' ii j1 w8 S8.out.rings (by omega) (by omega) (by omega)).mono ?_
          rintro e w9 ⟨rfl, ⟨m9, r9⟩, k9⟩
          have S9 := Lib.hid (S8.out.swap r9 k9 (i := ii) (j := j1) hii hjn hn)
          have D9 := Lib.hid (both_step (f' := g (swap l' ii j1)) (hD.out.elim (fun h => h.2) (fun h => h.2.both)) (by omega) hjn (by omega) HM.out (ltb_t hb2) (swap_sw (l := l') (i := ii) (j := j1) (by omega) (by omega)))
          clear r9 k9
          go_wp2
          go_roundw
          case rel => exact ⟨j1, m9, _, rfl, by omega, hjn, Lib.hid S9.out, Lib.hid (.inr ⟨by omega, D9.out⟩)⟩
          case measure => simp [intOf]; omega
end Go.Proofs.Ytiphkgkhfomcaaa.Alarm
