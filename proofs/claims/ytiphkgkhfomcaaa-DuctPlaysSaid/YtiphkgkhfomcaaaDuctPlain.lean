/- Chapter 25 (duct): the document's duct and the code's, told alike: plain facts. -/
import Derived.Test.YtiphkgkhfomcaaaDuctRefB
import Derived.Test.YtiphkgkhfomcaaaDuctFly2
set_option linter.unusedSimpArgs false
set_option linter.unusedVariables false
namespace Go.Proofs.Ytiphkgkhfomcaaa.Duct
open Go.RowKit Go.Proofs.Ytiphkgkhfomcaaa.Aid Go.Proofs.Ytiphkgkhfomcaaa.Byt
/-- The document's copies are the duct's; their bytes lie in the world w. -/
structure Agree (w : World) (L : Dt) (cs : List Cp) : Prop where
  fs : cs.map Cp.f = L.fates
  raw : ∀ (k : Nat) c, cs[k]? = some c → (c.f.kind = 0 → c.f.en = 0 ∧ 0 ≤ c.f.of_ ∧ ∃ xs, L.raws k = some xs ∧ Byt.Src w c.v xs) ∧ (c.f.kind ≠ 0 → L.raws k = Option.none)
  ids : ∀ i xs, L.raws i = some xs → 0 ≤ i ∧ i < L.fates.length
  cnt : (fl L).length = L.n
theorem Agree.len {w : World} {L : Dt} {cs : List Cp} (h : Agree w L cs) : cs.length = L.fates.length := by rw [← h.fs, List.length_map]
theorem agree_empty (w : World) : Agree w empty [] := ⟨rfl, fun k c h => by simp at h, fun i xs h => by simp [empty] at h, by simp [fl, ids, empty]⟩
theorem Agree.below {w w' : World} {L : Dt} {cs : List Cp} (h : Agree w L cs) (hb : Below w.heap.size w w') : Agree w' L cs :=
  ⟨h.fs, fun k c hc => ⟨fun hz => by obtain ⟨a, b, xs, d, e⟩ := (h.raw k c hc).1 hz; exact ⟨a, b, xs, d, e.below hb⟩, (h.raw k c hc).2⟩, h.ids, h.cnt⟩
theorem Agree.isSome {w : World} {L : Dt} {cs : List Cp} (h : Agree w L cs) (k : Nat) (c : Cp) (hc : cs[k]? = some c) : (L.raws k).isSome = up c := by
  by_cases hz : c.f.kind = 0
  · obtain ⟨_, _, xs, hx, _⟩ := (h.raw k c hc).1 hz
    rw [hx]
    simp [up, hz]
  · rw [(h.raw k c hc).2 hz]
    simp [up, hz]
theorem nthP_range (p : Int → Bool) : ∀ (ds : List Cp) (k n : Nat), (∀ j c, ds[j]? = some c → p ((k + j : Nat) : Int) = up c) → nthP ds k n = (((List.range' k ds.length).map (fun i : Nat => (i : Int))).filter p).getD n (-1)
  | [], k, n, _ => by simp [nthP]
  | c :: r, k, n, h => by
    have h0 := h 0 c rfl
    have hr := fun n => nthP_range p r (k + 1) n (fun j d hd => by have := h (j + 1) d (by simpa using hd); rwa [show k + (j + 1) = k + 1 + j by omega] at this)
    simp only [Nat.add_zero] at h0
    simp only [nthP, List.length_cons, List.range'_succ, List.map_cons, List.filter_cons, h0]
    by_cases hz : c.f.kind = 0
    · have hu : up c = true := by simp [up, hz]
      rw [if_pos hz, if_pos hu]
      cases n with
      | zero => simp
      | succ n => simp [hr n]
    · have hu : ¬ up c = true := by simp [up, hz]
      rw [if_neg hz, if_neg hu, hr n]
theorem lenP_range (p : Int → Bool) : ∀ (ds : List Cp) (k : Nat), (∀ j c, ds[j]? = some c → p ((k + j : Nat) : Int) = up c) → lenP ds = (((List.range' k ds.length).map (fun i : Nat => (i : Int))).filter p).length
  | [], k, _ => by simp [lenP]
  | c :: r, k, h => by
    have h0 := h 0 c rfl
    have hr := lenP_range p r (k + 1) (fun j d hd => by have := h (j + 1) d (by simpa using hd); rwa [show k + (j + 1) = k + 1 + j by omega] at this)
    simp only [Nat.add_zero] at h0
    simp only [lenP] at hr ⊢
    simp only [List.countP_cons, List.length_cons, List.range'_succ, List.map_cons, List.filter_cons, h0]
    by_cases hu : up c = true
    · rw [if_pos hu, if_pos hu, List.length_cons, hr]
    · rw [if_neg hu, if_neg hu, hr]
      rfl
theorem Agree.nth {w : World} {L : Dt} {cs : List Cp} (h : Agree w L cs) (n : Nat) : nthP cs 0 n = (fl L).getD n (-1) := by
  rw [nthP_range (fun i => (L.raws i).isSome) cs 0 n (fun j c hc => by simpa using h.isSome j c hc), fl, Duct.ids, List.range_eq_range', h.len]
theorem Agree.lenP {w : World} {L : Dt} {cs : List Cp} (h : Agree w L cs) : lenP cs = L.n := by
  rw [lenP_range (fun i => (L.raws i).isSome) cs 0 (fun j c hc => by simpa using h.isSome j c hc), ← h.cnt, fl, Duct.ids, List.range_eq_range', h.len]
theorem Agree.nth_in {w : World} {L : Dt} {cs : List Cp} (h : Agree w L cs) {n : Nat} (hn : n < L.n) : nthP cs 0 n = idAt L n := by
  have hl : n < (fl L).length := by rw [h.cnt]; exact hn
  rw [h.nth]
  simp [idAt, hl]
theorem Agree.nth_out {w : World} {L : Dt} {cs : List Cp} (h : Agree w L cs) {n : Nat} (hn : L.n ≤ n) : nthP cs 0 n = -1 := by
  have hl : (fl L).length ≤ n := by rw [h.cnt]; exact hn
  rw [h.nth]
  simp [hl]
theorem Agree.is {w : World} {L : Dt} {cs : List Cp} (h : Agree w L cs) (id : Int) : isP cs id = (L.raws id).isSome := by
  by_cases h0 : 0 ≤ id ∧ id < cs.length
  · obtain ⟨k, rfl⟩ : ∃ k : Nat, id = k := ⟨id.toNat, by omega⟩
    have hk : k < cs.length := by omega
    have hc : cs[k]? = some cs[k] := List.getElem?_eq_getElem hk
    rw [h.isSome k _ hc]
    have e' : cs.getD k default = cs[k] := by rw [List.getD_eq_getElem?_getD, hc]; rfl
    simp only [isP, Int.toNat_natCast, e']
    simp [hk, up]
  · have e : L.raws id = Option.none := by
      rcases hr : L.raws id with _ | xs
      · rfl
      · have := h.ids id xs hr
        rw [← h.len] at this
        omega
    rw [e]
    simp only [isP, Option.isSome_none, Bool.and_eq_false_iff, decide_eq_false_iff_not]
    omega
/-- The copy under way that lies at id. -/
theorem Agree.at_ {w : World} {L : Dt} {cs : List Cp} (h : Agree w L cs) {id : Int} {xs : List Int} (hr : L.raws id = some xs) : ∃ (k : Nat) (c : Cp), id = k ∧ cs[k]? = some c ∧ c.f.kind = 0 ∧ c.f.en = 0 ∧ 0 ≤ c.f.of_ ∧ Byt.Src w c.v xs ∧ L.fates.getD k default = c.f := by
  have hi := h.ids id xs hr
  obtain ⟨k, rfl⟩ : ∃ k : Nat, id = k := ⟨id.toNat, by omega⟩
  have hk : k < cs.length := by rw [h.len]; omega
  have hc : cs[k]? = some cs[k] := List.getElem?_eq_getElem hk
  have hz : cs[k].f.kind = 0 := by
    rcases Classical.em (cs[k].f.kind = 0) with e | e
    · exact e
    · rw [(h.raw k _ hc).2 e] at hr
      cases hr
  obtain ⟨a, b, ys, hy, hs⟩ := (h.raw k _ hc).1 hz
  obtain rfl : ys = xs := by rw [hr] at hy; exact (Option.some.inj hy).symm
  refine ⟨k, _, rfl, hc, hz, a, b, hs, ?_⟩
  rw [← h.fs, List.getD_eq_getElem?_getD, List.getElem?_map, hc]
  rfl
theorem fl_put (L : Dt) (xs : List Int) (of_ at_ now : Int) (hids : ∀ i xs, L.raws i = some xs → 0 ≤ i ∧ i < L.fates.length) : fl (putD L xs of_ at_ now) = fl L ++ [(L.fates.length : Int)] := by
  have e : (putD L xs of_ at_ now).fates.length = L.fates.length + 1 := by simp [putD]
  unfold fl ids
  rw [e, List.range_succ, List.map_append, List.filter_append]
  congr 1
  · refine List.filter_congr fun i hi => ?_
    obtain ⟨k, hk, rfl⟩ := List.mem_map.1 hi
    have := List.mem_range.1 hk
    have hne : ¬ ((k : Int) = (L.fates.length : Int)) := by omega
    simp [putD, hne]
  · simp [putD]
theorem agree_put {w : World} {L : Dt} {cs : List Cp} (h : Agree w L cs) {c : Cp} {xs : List Int} {of_ at_ now : Int} (hs : Byt.Src w c.v xs) (hf : c.f = ⟨if of_ < 0 then L.fates.length else of_, at_, 0, 0⟩) (h0 : 0 ≤ c.f.of_) : Agree w (putD L xs of_ at_ now) (cs ++ [c]) := by
  have hl := h.len
  refine ⟨by simp [putD, h.fs, hf], fun k d hd => ?_, fun i ys hi => ?_, by rw [fl_put L xs of_ at_ now h.ids]; simp [putD, h.cnt]⟩
  · by_cases hk : k < cs.length
    · rw [List.getElem?_append_left hk] at hd
      have hne : ¬ ((k : Int) = (L.fates.length : Int)) := by omega
      have e : (putD L xs of_ at_ now).raws k = L.raws k := by simp [putD, hne]
      rw [e]
      exact h.raw k d hd
    · have hk2 : k < (cs ++ [c]).length := (List.getElem?_eq_some_iff.1 hd).1
      simp at hk2
      obtain rfl : k = cs.length := by omega
      simp at hd
      subst hd
      have e : (putD L xs of_ at_ now).raws ((cs.length : Nat) : Int) = some xs := by simp [putD, hl]
      rw [e]
      refine ⟨fun _ => ⟨by rw [hf], h0, xs, rfl, hs⟩, fun hk => absurd (by rw [hf]) hk⟩
  · by_cases e : i = L.fates.length
    · subst e
      simp [putD]
      omega
    · simp only [putD, e, if_false] at hi
      have := h.ids i ys hi
      simp [putD]
      omega
theorem fl_end (L : Dt) (k : Nat) (now kind : Int) : fl (endD L k now kind) = (fl L).filter (fun i => i != (k : Int)) := by
  have e : (endD L k now kind).fates.length = L.fates.length := by simp [endD]
  unfold fl ids
  rw [e, List.filter_filter]
  refine List.filter_congr fun i hi => ?_
  by_cases h : i = (k : Int)
  · subst h; simp [endD]
  · simp [endD, h]
theorem agree_end {w : World} {L : Dt} {cs : List Cp} (h : Agree w L cs) {k : Nat} {c : Cp} {xs : List Int} {now kind : Int} (hc : cs[k]? = some c) (hr : L.raws k = some xs) (hk0 : kind ≠ 0) : Agree w (endD L k now kind) (cs.set k ⟨⟨c.f.of_, c.f.at_, now, kind⟩, c.A, c.n, c.cp⟩) := by
  have hl := h.len
  have hk : k < cs.length := (List.getElem?_eq_some_iff.1 hc).1
  have hg : L.fates.getD k default = c.f := by
    rw [← h.fs, List.getD_eq_getElem?_getD, List.getElem?_map, hc]
    rfl
  refine ⟨by simp only [endD, List.map_set, h.fs, hg], fun j d hd => ?_, fun i ys hi => ?_, ?_⟩
  · by_cases e : j = k
    · subst e
      rw [List.getElem?_set_self (by omega)] at hd
      obtain rfl := Option.some.inj hd
      exact ⟨fun hz => absurd hz hk0, fun _ => by simp [endD]⟩
    · rw [List.getElem?_set_ne (fun e2 => e e2.symm)] at hd
      have hne : ¬ ((j : Int) = (k : Int)) := by omega
      have e2 : (endD L k now kind).raws j = L.raws j := by simp [endD, hne]
      rw [e2]
      exact h.raw j d hd
  · by_cases e : i = k
    · subst e
      simp [endD] at hi
    · simp only [endD, e, if_false] at hi
      have := h.ids i ys hi
      simpa [endD] using this
  · rw [fl_end]
    have hm : (k : Int) ∈ fl L := mem_ids.2 ⟨h.ids _ _ hr, by simp [hr]⟩
    have hn : (fl L).Nodup := ids_nodup _ _
    have e : ((fl L).filter (fun i => i != (k : Int))) = (fl L).erase (k : Int) := (hn.erase_eq_filter _).symm
    rw [e, List.length_erase_of_mem hm, h.cnt]
    rfl
end Go.Proofs.Ytiphkgkhfomcaaa.Duct
