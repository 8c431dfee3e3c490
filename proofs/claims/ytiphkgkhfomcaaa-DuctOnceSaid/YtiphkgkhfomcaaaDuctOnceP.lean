/- Chapter 25 (duct): each copy comes or is dropped once (law 7): what holds between the calls. -/
import Derived.Test.YtiphkgkhfomcaaaDuctFull
set_option linter.unusedSimpArgs false
set_option linter.unusedVariables false
namespace Go.Proofs.Ytiphkgkhfomcaaa.Duct
open Go.BigFrame Go.RowKit Go.OpenShut Go.Proofs.Ytiphkgkhfomcaaa.Aid Go.Proofs.Ytiphkgkhfomcaaa.DMap Go.Proofs.Ytiphkgkhfomcaaa.Byt
/-- n copies, m of them under way; each is of one of the lists. -/
structure Ph (ls : List (List Int)) (n m : Nat) (t : Int) (L : Dt) : Prop where
  len : L.fates.length = n
  cnt : L.n = m
  last : L.last ≤ t
  each : ∀ id : Nat, id < n → ∃ (a : Nat) (xs : List Int), a < 60 ∧ (L.fates.getD id default).at_ = a ∧ ls[a]? = some xs ∧ ((L.raws id = some xs ∧ (L.fates.getD id default).kind = 0) ∨ (L.raws id = Option.none ∧ (L.fates.getD id default).kind ≠ 0))
theorem ph_empty (ls : List (List Int)) : Ph ls 0 0 0 empty := ⟨rfl, rfl, by simp [empty], fun id h => by omega⟩
theorem ph_later {ls : List (List Int)} {n m : Nat} {t t' : Int} {L : Dt} (h : Ph ls n m t L) (ht : t ≤ t') : Ph ls n m t' L := ⟨h.len, h.cnt, by have := h.last; omega, h.each⟩
theorem ph_long {ls : List (List Int)} {n : Nat} {i : Nat} {L : Dt} {xs : List Int} (h : Ph ls n n i L) (hi : i < 60) (hx : 2096 < xs.length) : putR L xs i = (0, 9, L) := by
  unfold putR
  rw [if_neg (by have := h.last; unfold bad; omega), if_pos hx]
theorem ph_put {ls : List (List Int)} {n : Nat} {i : Nat} {L : Dt} {xs : List Int} (h : Ph ls n n i L) (hi : i < 60) (hn : n ≤ i) (hx : xs.length ≤ 2096) (hl : ls[i]? = some xs) : putR L xs i = ((n : Int), 0, putD L xs (-1) i i) ∧ Ph ls (n + 1) (n + 1) i (putD L xs (-1) i i) := by
  refine ⟨?_, by simp [putD, h.len], by simp [putD, h.cnt], by simp [putD], fun id hid => ?_⟩
  · unfold putR
    rw [if_neg (by have := h.last; unfold bad; omega), if_neg (by omega), if_neg (by rw [h.cnt]; omega), h.len]
  · by_cases e : id = n
    · subst e
      have e1 : (putD L xs (-1) i i).fates.getD id default = ⟨id, i, 0, 0⟩ := by
        simp only [putD, List.getD_eq_getElem?_getD]
        rw [List.getElem?_append_right (by rw [h.len]; omega), h.len]
        simp
      refine ⟨i, xs, hi, by rw [e1], hl, .inl ⟨by simp [putD, h.len], by rw [e1]⟩⟩
    · have hlt : id < n := by omega
      have e1 : (putD L xs (-1) i i).fates.getD id default = L.fates.getD id default := by
        simp only [putD, List.getD_eq_getElem?_getD]
        rw [List.getElem?_append_left (by rw [h.len]; exact hlt)]
      have e2 : (putD L xs (-1) i i).raws id = L.raws id := by
        simp only [putD]
        rw [if_neg (by rw [h.len]; omega)]
      rw [e1, e2]
      exact h.each id hlt
theorem ph_end {ls : List (List Int)} {n m : Nat} {t now : Int} {L : Dt} {k : Nat} {kind : Int} (h : Ph ls n m t L) (hk : k < n) (hkind : kind ≠ 0) : Ph ls n (m - 1) now (endD L k now kind) := by
  refine ⟨by simp [endD, h.len], by simp [endD, h.cnt], by simp [endD], fun id hid => ?_⟩
  obtain ⟨a, xs, h1, h2, h3, h4⟩ := h.each id hid
  by_cases e : id = k
  · subst e
    have e1 : (endD L id now kind).fates.getD id default = ⟨(L.fates.getD id default).of_, (L.fates.getD id default).at_, now, kind⟩ := by
      simp only [endD, List.getD_eq_getElem?_getD]
      rw [List.getElem?_set_self (by rw [h.len]; exact hk)]
      rfl
    exact ⟨a, xs, h1, by rw [e1]; exact h2, h3, .inr ⟨by simp [endD], by rw [e1]; exact hkind⟩⟩
  · have e1 : (endD L k now kind).fates.getD id default = L.fates.getD id default := by
      simp only [endD, List.getD_eq_getElem?_getD]
      rw [List.getElem?_set_ne (by omega)]
    have e2 : (endD L k now kind).raws id = L.raws id := by
      simp only [endD]
      rw [if_neg (by omega)]
    rw [e1, e2]
    exact ⟨a, xs, h1, h2, h3, h4⟩
/-- Behind an end: what became of it. -/
theorem ph_fate {ls : List (List Int)} {n m : Nat} {t now : Int} {L : Dt} {k : Nat} {kind : Int} (h : Ph ls n m t L) (hk : k < n) : (endD L k now kind).fates.getD k default = ⟨(L.fates.getD k default).of_, (L.fates.getD k default).at_, now, kind⟩ := by
  simp only [endD, List.getD_eq_getElem?_getD]
  rw [List.getElem?_set_self (by rw [h.len]; exact hk)]
  rfl
theorem has_pos {w W : World} {g mb : Nat} {L : Dt} {k : Nat} {xs : List Int} (h : Has w W g mb L) (hr : L.raws k = some xs) : 1 ≤ L.n ∧ k < L.fates.length := by
  obtain ⟨fv, m, h⟩ := h
  have h1 := h.d.ids k xs hr
  have h2 := h.d.len
  rcases h.d.raw k with ⟨_, b⟩ | ⟨v, ys, a, b, _⟩
  · rw [hr] at b; cases b
  · exact ⟨h.d.map.pos (i := k) ⟨by omega, by omega⟩ (by rw [a]; rfl), by omega⟩
theorem has_out {w W : World} {g mb : Nat} {L : Dt} {id : Int} (h : Has w W g mb L) (hi : id < 0 ∨ (L.fates.length : Int) ≤ id) : L.raws id = Option.none := by
  obtain ⟨fv, m, h⟩ := h
  cases hr : L.raws id with
  | none => rfl
  | some xs => have := h.d.ids id xs hr; omega
theorem take_no (w W : World) (g mb : Nat) (L : Dt) (id now : Int) (h : Has w W g mb L) (hb : ¬ bad L now) (hi : Fits id) (hr : L.raws id = Option.none) : Calls Try.prog 30 #[.pointer (some ⟨g, 0, Option.none⟩), .int .i64 id, .int .i64 now] W (Same W (.tuple #[nilS, .int .i64 10])) := by
  obtain ⟨fv, m, h⟩ := h
  exact take_none g mb fv m L id now W h.d hb hi hr
theorem fate_no (w W : World) (g mb : Nat) (L : Dt) (id : Int) (h : Has w W g mb L) (hi : id < 0 ∨ (L.fates.length : Int) ≤ id) : Calls Try.prog 28 #[.pointer (some ⟨g, 0, Option.none⟩), .int .i64 id] W (Gives W (.tuple #[fateV ⟨0, 0, 0, 0⟩, .bool false])) := by
  obtain ⟨fv, m, h⟩ := h
  exact fate_out g mb fv m L id W h.d hi
end Go.Proofs.Ytiphkgkhfomcaaa.Duct
