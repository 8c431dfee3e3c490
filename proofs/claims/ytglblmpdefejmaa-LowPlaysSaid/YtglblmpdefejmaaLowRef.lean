/- The document's own functions of chapter 12 (ref12), each by what it computes. -/
import Derived.Test.YtglblmpdefejmaaLow
import Derived.Test.YtglblmpdefejmaaFlat
attribute [local go_sem ↓] Go.wp_at_zero Go.wp_at_succ
namespace Go.Proofs.Ytglblmpdefejmaa.Low
open Go.RowKit Go.OpenShut Go.Proofs.Ytglblmpdefejmaa.Aid Go.Proofs.Ytglblmpdefejmaa.LowPlain
attribute [local go_sem] max_2 min_2 max2_i min2_i
theorem best_bd (window now : Int) (l : List LMark) (hw : Wf l) : -1 ≤ best window now l ∧ best window now l ≤ 4611686018427387904 := by
  unfold best
  suffices H : ∀ (l : List LMark) (b : Int), Wf l → -1 ≤ b → b ≤ 4611686018427387904 → -1 ≤ l.foldl (fun b x => if now - x.at_ < window ∧ (b < 0 ∨ x.v < b) then x.v else b) b ∧ l.foldl (fun b x => if now - x.at_ < window ∧ (b < 0 ∨ x.v < b) then x.v else b) b ≤ 4611686018427387904 from H l _ hw (by omega) (by omega)
  intro l
  induction l with
  | nil => intro b _ h1 h2; exact ⟨h1, h2⟩
  | cons x t ih =>
    intro b h h1 h2
    have hx := h x (by simp)
    rw [List.foldl_cons]
    refine ih _ (fun y hy => h y (by simp [hy])) ?_ ?_ <;> split <;> omega
set_option maxHeartbeats 1000000 in
theorem ref_min (window now : Int) (A : Option Addr) (c : Nat) (l : List LMark) (w : World) (hr : Reps w A 2 encM l) (hw : Wf l) (hl : l.length ≤ 1000) (n0 : 0 ≤ now) (n1 : now ≤ 4611686018427387904) :
    Calls Try.prog 12 #[.slice A l.length c, .int .i64 window, .int .i64 now] w fun e w' => e = .returned (.int .i64 (best window now l)) ∧ w = w' := by
  have R := Lib.hid hr
  have HW := Lib.hid hw
  clear hr hw
  go_enter Try.func12, Try.ntmps12
  go_wp2
  go_loop [7, 8] (fun b i => ∃ (k : Nat) (x : Int), k ≤ l.length ∧ i = .int .i64 k ∧ b = .int .i64 x ∧ Hid (x = best window now (l.take k))) (fun _ i => l.length - (intOf i).toNat)
  case atStart => exact ⟨0, -1, by omega, rfl, rfl, Lib.hid (by simp [best])⟩
  case round =>
    obtain ⟨k, b, hk, rfl, rfl, hb⟩ := hrel
    have hbd := best_bd window now (l.take k) (fun x hx => HW.out x (List.mem_of_mem_take hx))
    rw [← hb.out] at hbd
    obtain ⟨bd1, bd2⟩ := hbd
    by_cases hlt : k < l.length
    · obtain ⟨x, hx⟩ : ∃ x, l[k]? = some x := ⟨_, List.getElem?_eq_getElem hlt⟩
      have hs : best window now (l.take (k + 1)) = if now - x.at_ < window ∧ (b < 0 ∨ x.v < b) then x.v else b := by
        rw [take_snoc l k hlt, best_snoc, ← hb.out, (List.getElem?_eq_some_iff.1 hx).2]
      obtain ⟨ad, hA, had, k0, k1⟩ := cellAt R.out hx
      subst hA
      obtain ⟨x0, x1, x2, x3⟩ := HW.out x (List.mem_of_getElem? hx)
      have HX := Lib.hid hx
      have HS := Lib.hid hs
      clear hx hs
      by_cases c1 : now - x.at_ < window
      · by_cases c2 : b < 0
        · go_wp2
          go_round
          case rel => exact ⟨k + 1, x.v, by omega, by go_num, rfl, Lib.hid (by rw [HS.out, if_pos ⟨c1, .inl c2⟩])⟩
          case measure => simp [intOf]; omega
        · by_cases c3 : x.v < b
          · go_wp2
            go_round
            case rel => exact ⟨k + 1, x.v, by omega, by go_num, rfl, Lib.hid (by rw [HS.out, if_pos ⟨c1, .inr c3⟩])⟩
            case measure => simp [intOf]; omega
          · go_wp2
            go_round
            case rel => exact ⟨k + 1, b, by omega, by go_num, rfl, Lib.hid (by rw [HS.out, if_neg (by omega)])⟩
            case measure => simp [intOf]; omega
      · go_wp2
        go_round
        case rel => exact ⟨k + 1, b, by omega, by go_num, rfl, Lib.hid (by rw [HS.out, if_neg (by omega)])⟩
        case measure => simp [intOf]; omega
    · go_wp2
      go_ret
      exact ⟨ret_int (by rw [hb.out, List.take_of_length_le (by omega)]), rfl⟩
/-- Whether less is still true behind the marks up to k. -/
theorem count_take (window last : Int) (l : List LMark) (k : Nat) (x : LMark) (hx : l[k]? = some x) :
    count window last (l.drop k) = (if (decide (last - x.at_ < window) && (l.drop (k + 1)).all (fun y => decide (x.v < y.v))) = true then 1 else 0) + count window last (l.drop (k + 1)) := by
  have hk := (List.getElem?_eq_some_iff.1 hx).1
  rw [List.drop_eq_getElem_cons hk, (List.getElem?_eq_some_iff.1 hx).2]; rfl
theorem all_take (x : LMark) (l : List LMark) (j : Nat) (y : LMark) (hy : l[j]? = some y) : (l.drop j).all (fun z => decide (x.v < z.v)) = (decide (x.v < y.v) && (l.drop (j + 1)).all (fun z => decide (x.v < z.v))) := by
  have hk := (List.getElem?_eq_some_iff.1 hy).1
  rw [List.drop_eq_getElem_cons hk, (List.getElem?_eq_some_iff.1 hy).2]; rfl
theorem count_le (window last : Int) : ∀ (l : List LMark), count window last l ≤ l.length
  | [] => by simp [count]
  | x :: t => by
    have := count_le window last t
    unfold count
    simp only [List.length_cons]
    split <;> omega
set_option maxRecDepth 100000 in
set_option maxHeartbeats 2000000 in
theorem ref_len (window last : Int) (A : Option Addr) (c : Nat) (l : List LMark) (w : World) (hr : Reps w A 2 encM l) (hw : Wf l) (hl : l.length ≤ 1000) (n0 : 0 ≤ last) (n1 : last ≤ 4611686018427387904) :
    Calls Try.prog 14 #[.slice A l.length c, .int .i64 window, .int .i64 last] w fun e w' => e = .returned (.int .i64 (count window last l)) ∧ ∃ n, w' = w.drewN n := by
  have R := Lib.hid hr
  have HW := Lib.hid hw
  clear hr hw
  go_enter Try.func14, Try.ntmps14
  go_wp2
  go_loopw [7, 8] (fun n i wr => ∃ (k x : Nat), k ≤ l.length ∧ x ≤ k ∧ i = .int .i64 k ∧ n = .int .i64 x ∧ Hid (x + count window last (l.drop k) = count window last l) ∧ Hid (∃ n, wr = w.drewN n)) (fun _ i _ => l.length - (intOf i).toNat)
  case atStart => exact ⟨0, 0, by omega, by omega, rfl, rfl, Lib.hid (by simp), Lib.hid ⟨0, rfl⟩⟩
  case round =>
    obtain ⟨k, n, hk, hn, rfl, rfl, hb, hd⟩ := hrel
    obtain ⟨d, rfl⟩ := hd.out
    clear hd
    by_cases hlt : k < l.length
    · obtain ⟨x, hx⟩ : ∃ x, l[k]? = some x := ⟨_, List.getElem?_eq_getElem hlt⟩
      have hs := count_take window last l k x hx
      obtain ⟨ad, hA, had, k0, k1⟩ := cellAt R.out hx
      subst hA
      obtain ⟨x0, x1, x2, x3⟩ := HW.out x (List.mem_of_getElem? hx)
      have HS := Lib.hid hs
      clear hx hs
      obtain ⟨tot, htot⟩ : ∃ tot, tot = (decide (last - x.at_ < window) && (l.drop (k + 1)).all (fun y => decide (x.v < y.v))) := ⟨_, rfl⟩
      rw [← htot] at HS
      have HT := Lib.hid htot
      clear htot
      go_wp2_with fail
      obtain ⟨wo, hwo⟩ : ∃ wo : World, wo = w.drewN d := ⟨_, rfl⟩
      rw [← hwo]
      have HWO := Lib.hid hwo
      have k0 : wo.cell? (ad.add (k * 2)) = some (.int .i64 x.at_) := by rw [hwo]; exact k0
      have k1 : wo.cell? ⟨(ad.add (k * 2)).block, (ad.add (k * 2)).off + 1, none⟩ = some (.int .i64 x.v) := by rw [hwo]; exact k1
      clear hwo
      go_loopw [9, 10] (fun b j wi => ∃ (m : Nat) (f : Bool), k + 1 ≤ m ∧ m ≤ l.length ∧ j = .int .i64 m ∧ b = .bool f ∧ Hid ((f && (l.drop m).all (fun y => decide (x.v < y.v))) = tot) ∧ Hid (∃ n, wi = w.drewN n)) (fun _ j _ => l.length - (intOf j).toNat)
      case atStart => exact ⟨k + 1, _, by omega, by omega, by go_num, rfl, Lib.hid (by rw [HT.out]), Lib.hid ⟨_, HWO.out⟩⟩
      case round =>
        obtain ⟨m, f, hm1, hm2, rfl, rfl, hf, hwi⟩ := hrel
        obtain ⟨d2, rfl⟩ := hwi.out
        clear hwi
        by_cases hm : m < l.length
        · obtain ⟨y, hy⟩ : ∃ y, l[m]? = some y := ⟨_, List.getElem?_eq_getElem hm⟩
          have ha := all_take x l m y hy
          obtain ⟨ad', hA', _, q0, q1⟩ := cellAt R.out hy
          cases hA'
          have HA := Lib.hid ha
          clear ha hy
          cases f with
          | true =>
            by_cases hv : x.v < y.v
            · go_wp2_with fail
              go_quiet (fail)
              go_wp2
              go_roundw
              case rel => exact ⟨m + 1, true, by omega, by omega, by go_num, rfl, Lib.hid (by rw [← hf.out, HA.out]; simp [hv]), Lib.hid ⟨_, rfl⟩⟩
              case measure => simp [intOf]; omega
            · go_wp2_with fail
              go_quiet (fail)
              go_wp2
              go_roundw
              case rel => exact ⟨m + 1, decide (x.v < y.v), by omega, by omega, by go_num, rfl, Lib.hid (by rw [← hf.out, HA.out]; simp), Lib.hid ⟨_, rfl⟩⟩
              case measure => simp [intOf]; omega
          | false =>
            go_wp2_with fail
            go_quiet (fail)
            go_wp2
            go_roundw
            case rel => exact ⟨m + 1, false, by omega, by omega, by go_num, rfl, Lib.hid (by rw [← hf.out]; simp), Lib.hid ⟨_, rfl⟩⟩
            case measure => simp [intOf]; omega
        · have hft : tot = f := by rw [← hf.out, List.drop_eq_nil_of_le (by omega)]; simp
          subst hft
          cases tot with
          | true =>
            go_wp2
            go_roundw
            case rel => exact ⟨k + 1, n + 1, by omega, by omega, by go_num, by go_num, Lib.hid (by have := HS.out; rw [if_pos rfl] at this; have := hb.out; omega), Lib.hid ⟨_, rfl⟩⟩
            case measure => simp [intOf]; omega
          | false =>
            go_wp2
            go_roundw
            case rel => exact ⟨k + 1, n, by omega, by omega, by go_num, rfl, Lib.hid (by have := HS.out; rw [if_neg (by simp)] at this; have := hb.out; omega), Lib.hid ⟨_, rfl⟩⟩
            case measure => simp [intOf]; omega
    · go_wp2
      go_ret
      exact ⟨by rw [← hb.out, List.drop_eq_nil_of_le (by omega)]; simp [count], _, rfl⟩
end Go.Proofs.Ytglblmpdefejmaa.Low
