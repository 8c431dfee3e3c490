/- Chapter 25 (duct): each copy comes or is dropped once (law 7): the walk. -/
import Derived.Test.YtiphkgkhfomcaaaDuctOnceP
set_option linter.unusedSimpArgs false
set_option linter.unusedVariables false
attribute [local go_sem ↓] Go.wp_at_zero Go.wp_at_succ
namespace Go.Proofs.Ytiphkgkhfomcaaa.Duct
open Go.BigFrame Go.RowKit Go.OpenShut Go.Proofs.Ytiphkgkhfomcaaa.Aid Go.Proofs.Ytiphkgkhfomcaaa.DMap Go.Proofs.Ytiphkgkhfomcaaa.Byt
structure Rw where
  a : Option Addr
  xs : List Int
  cap : Nat
def encR (r : Rw) : List Value := [.slice r.a r.xs.length r.cap]
structure OpV where
  kind : Int
  id : Int
  b : Value
  dt : Int
def encO (o : OpV) : List Value := [.int .u8 o.kind, .int .i64 o.id, o.b, .int .i64 o.dt]
def RwOk (w : World) (r : Rw) : Prop := Reps w r.a 1 encB r.xs ∧ (r.a = Option.none → r.cap = 0) ∧ r.xs.length ≤ 9223372036854775807
theorem RwOk.below {w w' : World} {r : Rw} (h : RwOk w r) (hb : Below w.heap.size w w') : RwOk w' r := ⟨h.1.below hb, h.2⟩
theorem RwOk.src {w : World} {r : Rw} (h : RwOk w r) : Byt.Src w (.slice r.a r.xs.length r.cap) r.xs := ⟨r.a, r.cap, rfl, h.1, fun e => ⟨h.2.1 e, by
    cases hx : r.xs with
    | nil => rfl
    | cons x t =>
      obtain ⟨ad, e2, _⟩ := h.1 0 x (by rw [hx]; rfl)
      rw [e] at e2
      cases e2⟩⟩
def OpOk (o : OpV) : Prop := Fits o.id ∧ 0 ≤ o.kind ∧ o.kind ≤ 255
theorem rrows {w : World} {A : Option Addr} {rows : List Rw} (h : Reps w A 1 encR rows) (k : Nat) (r : Rw) (hk : rows[k]? = some r) : ∃ ad : Addr, A = some ad ∧ ad.block < w.heap.size ∧ w.cell? (ad.add k) = some (.slice r.a r.xs.length r.cap) := by
  obtain ⟨ad, e, hl, hc⟩ := h k r hk
  exact ⟨ad, e, hl, by have := hc 0 _ rfl; rwa [Nat.mul_one, Nat.add_zero] at this⟩
theorem add_next (ad : Addr) (n j : Nat) (hj : 0 < j) : ad.add (n + j) = ⟨(ad.add n).block, (ad.add n).off + j, Option.none⟩ := by
  rw [← Go.Addr.add_add]
  unfold Addr.add
  split <;> simp_all
theorem add_block (ad : Addr) (n : Nat) : (ad.add n).block = ad.block := by unfold Addr.add; split <;> rfl
theorem rops {w : World} {B : Option Addr} {ops : List OpV} (h : Reps w B 4 encO ops) (k : Nat) (o : OpV) (hk : ops[k]? = some o) : ∃ ad : Addr, B = some ad ∧ ad.block < w.heap.size ∧ w.cell? (ad.add (k * 4)) = some (.int .u8 o.kind) ∧ w.cell? ⟨(ad.add (k * 4)).block, (ad.add (k * 4)).off + 1, Option.none⟩ = some (.int .i64 o.id) := by
  obtain ⟨ad, e, hl, hc⟩ := h k o hk
  exact ⟨ad, e, hl, by simpa using hc 0 _ rfl, (add_next ad (k * 4) 1 (by omega)) ▸ hc 1 _ rfl⟩
/-- A take keeps a box that was made ahead of it. -/
theorem take_box (w w3 : World) (o : Obj) (g mb : Nat) (L : Dt) (k : Nat) (now : Int) (xs : List Int) (h : Has w w3 g mb L) (hb : ¬ bad L now) (hr : L.raws k = some xs) : Calls Try.prog 30 #[.pointer (some ⟨g, 0, Option.none⟩), .int .i64 k, .int .i64 now] (w3.alloc o) fun e W' => Taken w (w3.alloc o) g mb (endD L k now 1) xs e W' ∧ W'.heap[w3.heap.size]? = (w3.alloc o).heap[w3.heap.size]? := by
  obtain ⟨fv, m, h⟩ := h
  have h4 := h.below ((Below.refl _ w3).alloc (Nat.le_refl _) o)
  have hg := h.d.box.lt
  have hm : mb < w3.heap.size := by
    obtain ⟨D, ⟨es, cl, e1, _⟩, _⟩ := h.d.map
    exact (Array.getElem?_eq_some_iff.1 e1).1
  exact (take_ok g mb fv m L k now xs _ h4.d hb hr).mono fun e W' ⟨v, m', he, h1, h2, h3, hx⟩ => ⟨⟨v, he, h1, ⟨fv, m', h4.keeps h2 h3 (fun k hk => .inl hk)⟩, keepb h4.d h3⟩, h3.block _ (by simp) (by omega) (by omega) (fun e => by have := h.d.row.lt _ e; omega)⟩
set_option maxRecDepth 100000 in
set_option maxHeartbeats 8000000 in
theorem once_walk (A B : Option Addr) (c d : Nat) (rows : List Rw) (ops : List OpV) (w : World) (hA : Reps w A 1 encR rows) (hr : ∀ r ∈ rows, RwOk w r) (hB : Reps w B 4 encO ops) (ho : ∀ o ∈ ops, OpOk o) (hl : rows.length ≤ 9223372036854775807) (hm : ops.length ≤ 9223372036854775807) :
    Calls Try.prog 7 #[.slice A rows.length c, .slice B ops.length d] w (Gives w (.bool true)) := by
  have HA := Lib.hid hA
  have HB := Lib.hid hB
  have HR := Lib.hid hr
  have HO := Lib.hid ho
  clear hA hB hr ho
  go_enter Try.func7, Try.ntmps7
  go_wp2_with fail
  refine (known_calls w).mono ?_
  rintro e w1 ⟨rfl, b1⟩
  have B1 := Lib.hid b1
  clear b1
  go_wp2_with fail
  refine (new_has w w1 B1.out).mono ?_
  rintro e w2 ⟨g, mb, rfl, h2⟩
  have H2 := Lib.hid h2
  clear h2
  go_wp2
  go_loopw [6, 7] (fun nv i wr => ∃ (n k : Nat) (L : Dt), n ≤ k ∧ k ≤ 60 ∧ k ≤ rows.length ∧ nv = .int .i64 n ∧ i = .int .i64 k ∧ Hid (Ph (rows.map (·.xs)) n n k L ∧ Has w wr g mb L)) (fun _ i _ => 60 - (intOf i).toNat)
  case atStart => exact ⟨0, 0, empty, by omega, by omega, by omega, rfl, rfl, Lib.hid ⟨ph_empty _, H2.out⟩⟩
  case round =>
    obtain ⟨n, k, L, hnk, hk60, hkl, rfl, rfl, hL⟩ := hrel
    clear H2
    by_cases hlt : k < 60 ∧ k < rows.length
    · obtain ⟨r, hrk⟩ : ∃ r, rows[k]? = some r := ⟨_, List.getElem?_eq_getElem hlt.2⟩
      obtain ⟨ad, rfl, hadl, hcell⟩ := rrows (HA.out.below hL.out.2.bel) k r hrk
      have hrok := HR.out r (List.mem_of_getElem? hrk)
      have hk1 : (k : Int) < 60 := by omega
      have hk2 : (k : Int) < (rows.length : Int) := by omega
      have P := put_has w wr g mb L (.slice r.a r.xs.length r.cap) r.xs k hL.out.2 (hrok.below hL.out.2.bel).src (by have := hL.out.1.len; omega) (by have := hrok.2.2; omega) (fun hne j hj => .inl (reps_far hrok.1 _ _ hne j hj))
      by_cases hx : r.xs.length ≤ 2096
      · obtain ⟨p1, p2⟩ := ph_put (xs := r.xs) hL.out.1 hlt.1 hnk hx (by simp [hrk])
        rw [p1] at P
        have HP := Lib.hid P
        have HP2 := Lib.hid p2
        clear P p1 p2 hrok
        go_wp2_with fail
        refine HP.out.mono ?_
        rintro e w3 ⟨rfl, h3, _⟩
        have H3 := Lib.hid h3
        clear h3
        go_wp2
        go_roundw
        case rel => exact ⟨n + 1, k + 1, _, by omega, by omega, by omega, by go_num, by go_num, Lib.hid ⟨ph_later HP2.out (by omega), H3.out⟩⟩
        case measure => simp [intOf]; omega
      · rw [ph_long hL.out.1 hlt.1 (by omega)] at P
        have HP := Lib.hid P
        clear P hrok
        go_wp2_with fail
        refine HP.out.mono ?_
        rintro e w3 ⟨rfl, h3, _⟩
        have H3 := Lib.hid h3
        clear h3
        go_wp2
        go_roundw
        case rel => exact ⟨n, k + 1, L, by omega, by omega, by omega, rfl, by go_num, Lib.hid ⟨ph_later hL.out.1 (by omega), H3.out⟩⟩
        case measure => simp [intOf]; omega
    · rcases (by omega : ((k : Int) < (rows.length : Int) ∧ ¬ (k : Int) < 60) ∨ ¬ (k : Int) < (rows.length : Int)) with ⟨hk2, hk3⟩ | hk2
      all_goals
        have hk4 := hk2
        go_wp2
        go_loopw [10, 11, 12] (fun cv dv i wr => ∃ (m cm dr k : Nat) (L : Dt), m + cm + dr = n ∧ cm + dr ≤ k ∧ k ≤ 200 ∧ k ≤ ops.length ∧ cv = .int .i64 cm ∧ dv = .int .i64 dr ∧ i = .int .i64 k ∧ Hid (Ph (rows.map (·.xs)) n m (100 + k) L ∧ Has w wr g mb L)) (fun _ _ i _ => 200 - (intOf i).toNat)
        case atStart => exact ⟨n, 0, 0, 0, L, by omega, by omega, by omega, by omega, rfl, rfl, rfl, Lib.hid ⟨ph_later hL.out.1 (by omega), hL.out.2⟩⟩
        case round =>
          obtain ⟨m, cm, dr, j, L2, hmn, hcj, hj200, hjl, rfl, rfl, rfl, hL2⟩ := hrel
          clear hL L
          by_cases hlt2 : j < 200 ∧ j < ops.length
          · obtain ⟨o, hoj⟩ : ∃ o, ops[j]? = some o := ⟨_, List.getElem?_eq_getElem hlt2.2⟩
            obtain ⟨oa, oe, hol, hc0, hc1⟩ := rops (HB.out.below hL2.out.2.bel) j o hoj
            subst oe
            obtain ⟨oi1, oi2, oi3⟩ := HO.out o (List.mem_of_getElem? hoj)
            have hj1 : (j : Int) < 200 := by omega
            have hj2 : (j : Int) < (ops.length : Int) := by omega
            obtain ⟨ok, oid, ob, odt⟩ := o
            by_cases hin : 0 ≤ oid ∧ oid < n
            · obtain ⟨q, rfl⟩ := Int.eq_ofNat_of_zero_le hin.1
              have FT := fate_has w wr g mb L2 q hL2.out.2 (by have := hL2.out.1.len; omega)
              obtain ⟨a, xs, ha60, hfa, hrow, hcase⟩ := hL2.out.1.each q (by omega)
              obtain ⟨f, hf⟩ : ∃ f, L2.fates.getD q default = f := ⟨_, rfl⟩
              rw [hf] at FT hfa hcase
              obtain ⟨fo, fa, fe, fk⟩ := f
              simp only at hfa
              subst hfa
              simp only [fateV] at FT
              have FT := Lib.hid FT
              have HC := Lib.hid (And.intro hrow hcase)
              clear hrow hcase
              go_wp2_with fail
              refine FT.out.mono ?_
              rintro e w3 ⟨rfl, b3⟩
              have H3 := Lib.hid (hL2.out.2.below b3)
              have hc0 := (b3.cell (p := oa.add (j * 4)) (by rw [add_block]; exact hol)).trans hc0
              have hol : oa.block < w3.heap.size := Nat.lt_of_lt_of_le hol b3.size
              have holn : ¬ w3.heap.size = oa.block := by omega
              have holn2 : ¬ oa.block = w3.heap.size := by omega
              have hob := add_block oa (j * 4)
              clear b3
              have ht : ok.tmod 2 = ok % 2 := Int.tmod_eq_emod_of_nonneg oi2
              have hbad : ¬ bad L2 (100 + j) := by have := hL2.out.1.last; unfold bad; omega
              have H4 := Lib.hid (H3.out.below ((Below.refl _ w3).alloc (Nat.le_refl _) (.cells #[.int .i64 fo, .int .i64 a, .int .i64 fe, .int .i64 fk] 65)))
              clear FT
              rcases (by omega : ok.tmod 2 = 0 ∨ ok.tmod 2 = 1) with hp | hp
              · clear ht
                rcases HC.out.2 with ⟨hraw, hfk⟩ | ⟨hraw, hfk⟩
                · have hpos := has_pos hL2.out.2 hraw
                  rw [hL2.out.1.cnt] at hpos
                  have DR := Lib.hid (drop_has w _ g mb L2 q (100 + j) xs H4.out hbad hraw)
                  have HP := Lib.hid (ph_end (now := 100 + j) (kind := 2) hL2.out.1 (by omega : q < n) (by decide))
                  clear hraw hfk HC
                  go_wp2_with fail
                  refine DR.out.mono ?_
                  rintro e w5 ⟨rfl, h5, _⟩
                  have H5 := Lib.hid h5
                  clear h5
                  go_wp2
                  go_roundw
                  case rel => exact ⟨m - 1, cm, dr + 1, j + 1, _, by omega, by omega, by omega, by omega, rfl, by go_num, by go_num, Lib.hid ⟨ph_later HP.out (by omega), H5.out⟩⟩
                  case measure => simp [intOf]; omega
                · have DR := Lib.hid (drop_no w _ g mb L2 q (100 + j) H4.out hbad oi1 hraw)
                  clear hraw hfk HC
                  go_wp2_with fail
                  refine DR.out.mono ?_
                  rintro e w5 ⟨rfl, rfl⟩
                  go_wp2
                  go_roundw
                  case rel => exact ⟨m, cm, dr, j + 1, _, by omega, by omega, by omega, by omega, rfl, rfl, by go_num, Lib.hid ⟨ph_later hL2.out.1 (by omega), H4.out⟩⟩
                  case measure => simp [intOf]; omega
              · clear ht
                rcases HC.out.2 with ⟨hraw, hfk⟩ | ⟨hraw, hfk⟩
                · have hpos := has_pos hL2.out.2 hraw
                  rw [hL2.out.1.cnt] at hpos
                  subst hfk
                  have TK := Lib.hid (take_box w w3 (.cells #[.int .i64 fo, .int .i64 a, .int .i64 fe, .int .i64 0] 65) g mb L2 q (100 + j) xs H3.out hbad hraw)
                  have HP := Lib.hid (ph_end (now := 100 + j) (kind := 1) hL2.out.1 (by omega : q < n) (by decide))
                  have HF := Lib.hid (ph_fate (now := 100 + j) (kind := 1) hL2.out.1 (by omega : q < n))
                  obtain ⟨r, hra, hrx⟩ : ∃ r, rows[a]? = some r ∧ r.xs = xs := by
                    have := HC.out.1
                    rw [List.getElem?_map] at this
                    cases hz : rows[a]? with
                    | none => rw [hz] at this; cases this
                    | some r => rw [hz] at this; exact ⟨r, rfl, by simpa using this⟩
                  subst hrx
                  have hal : a < rows.length := (List.getElem?_eq_some_iff.1 hra).1
                  clear hraw HC
                  go_wp2_with fail
                  refine TK.out.mono ?_
                  rintro e w5 ⟨⟨v, rfl, hrow5, h5, _⟩, hbx⟩
                  obtain ⟨vA, vn, vc, rfl⟩ := hrow5.some_slice
                  obtain ⟨vA', vc', ev, hvA⟩ := hrow5.reps encB_len
                  injection ev with ev1 ev2 ev3
                  subst ev1 ev2 ev3
                  have HV := Lib.hid hvA.2
                  have B5 : Blk w5 w3.heap.size 65 #[.int .i64 fo, .int .i64 a, .int .i64 fe, .int .i64 0] := hbx.trans (Blk.new w3 65 _)
                  have c1 := B5.cell 1
                  have c3 := B5.cell 3
                  simp only [List.getElem?_toArray, List.getElem?_cons_succ, List.getElem?_cons_zero] at c1 c3
                  have H5 := Lib.hid h5
                  obtain ⟨ra, re, _, hrc⟩ := rrows (HA.out.below h5.bel) a r hra
                  subst re
                  have ha0 : ¬ (a : Int) < 0 := by omega
                  have ha1 : (a : Int) < (rows.length : Int) := by omega
                  have ha2 : ¬ (rows.length : Int) ≤ (a : Int) := by omega
                  have SM := Lib.hid (same_calls vA r.a vc r.cap r.xs w5 HV.out ((HR.out r (List.mem_of_getElem? hra)).1.below h5.bel) (by have := (HR.out r (List.mem_of_getElem? hra)).2.2; omega))
                  clear h5 hbx B5 hrow5 hvA TK
                  go_wp2_with fail
                  refine SM.out.mono ?_
                  rintro e w6 ⟨rfl, b6⟩
                  have H6 := Lib.hid (H5.out.below b6)
                  clear b6 SM
                  have FT := fate_has w w6 g mb _ q H6.out (by have := HP.out.len; omega)
                  rw [HF.out, hf] at FT
                  simp only [fateV] at FT
                  have FT := Lib.hid FT
                  have hen : ¬ (100 + (j : Int)) < (a : Int) := by omega
                  go_wp2_with fail
                  refine FT.out.mono ?_
                  rintro e w7 ⟨rfl, b7⟩
                  have H7 := Lib.hid (H6.out.below b7)
                  clear b7
                  go_wp2
                  go_roundw
                  case rel => exact ⟨m - 1, cm + 1, dr, j + 1, _, by omega, by omega, by omega, by omega, by go_num, rfl, by go_num, Lib.hid ⟨ph_later HP.out (by omega), H7.out.below ((Below.refl _ w7).alloc (Nat.le_refl _) _)⟩⟩
                  case measure => simp [intOf]; omega
                · have DR := Lib.hid (take_no w _ g mb L2 q (100 + j) H4.out hbad oi1 hraw)
                  clear hraw HC
                  go_wp2_with fail
                  refine DR.out.mono ?_
                  rintro e w5 ⟨rfl, rfl⟩
                  go_wp2
                  go_roundw
                  case rel => exact ⟨m, cm, dr, j + 1, _, by omega, by omega, by omega, by omega, rfl, rfl, by go_num, Lib.hid ⟨ph_later hL2.out.1 (by omega), H4.out⟩⟩
                  case measure => simp [intOf]; omega
            · have hout : oid < 0 ∨ (L2.fates.length : Int) ≤ oid := by have := hL2.out.1.len; omega
              have FT := fate_no w wr g mb L2 oid hL2.out.2 hout
              have hraw := has_out hL2.out.2 hout
              simp only [fateV] at FT
              have FT := Lib.hid FT
              clear hout
              go_wp2_with fail
              refine FT.out.mono ?_
              rintro e w3 ⟨rfl, b3⟩
              have H3 := Lib.hid (hL2.out.2.below b3)
              have hc0 := (b3.cell (p := oa.add (j * 4)) (by rw [add_block]; exact hol)).trans hc0
              have hol : oa.block < w3.heap.size := Nat.lt_of_lt_of_le hol b3.size
              have holn : ¬ w3.heap.size = oa.block := by omega
              have holn2 : ¬ oa.block = w3.heap.size := by omega
              have hob := add_block oa (j * 4)
              clear b3
              have ht : ok.tmod 2 = ok % 2 := Int.tmod_eq_emod_of_nonneg oi2
              have hbad : ¬ bad L2 (100 + j) := by have := hL2.out.1.last; unfold bad; omega
              have H4 := Lib.hid (H3.out.below ((Below.refl _ w3).alloc (Nat.le_refl _) (.cells #[.int .i64 0, .int .i64 0, .int .i64 0, .int .i64 0] 65)))
              clear FT
              rcases (by omega : ok.tmod 2 = 0 ∨ ok.tmod 2 = 1) with hp | hp
              · clear ht
                have DR := Lib.hid (drop_no w _ g mb L2 oid (100 + j) H4.out hbad oi1 hraw)
                clear hraw
                go_wp2_with fail
                refine DR.out.mono ?_
                rintro e w5 ⟨rfl, rfl⟩
                go_wp2
                go_roundw
                case rel => exact ⟨m, cm, dr, j + 1, _, by omega, by omega, by omega, by omega, rfl, rfl, by go_num, Lib.hid ⟨ph_later hL2.out.1 (by omega), H4.out⟩⟩
                case measure => simp [intOf]; omega
              · clear ht
                have DR := Lib.hid (take_no w _ g mb L2 oid (100 + j) H4.out hbad oi1 hraw)
                clear hraw
                go_wp2_with fail
                refine DR.out.mono ?_
                rintro e w5 ⟨rfl, rfl⟩
                go_wp2
                go_roundw
                case rel => exact ⟨m, cm, dr, j + 1, _, by omega, by omega, by omega, by omega, rfl, rfl, by go_num, Lib.hid ⟨ph_later hL2.out.1 (by omega), H4.out⟩⟩
                case measure => simp [intOf]; omega
          · rcases (by omega : ((j : Int) < (ops.length : Int) ∧ ¬ (j : Int) < 200) ∨ ¬ (j : Int) < (ops.length : Int)) with ⟨hq2, hq3⟩ | hq2
            all_goals
              have LN := Lib.hid (len_has w wr g mb L2 hL2.out.2)
              have TT := Lib.hid (total_has w wr g mb L2 hL2.out.2)
              rw [hL2.out.1.cnt] at LN
              rw [hL2.out.1.len] at TT
              have hsum : (m : Int) + (cm : Int) + (dr : Int) = (n : Int) := by omega
              go_wp2_with fail
              refine LN.out.mono ?_
              rintro e w8 ⟨rfl, rfl⟩
              go_wp2_with fail
              refine TT.out.mono ?_
              rintro e w8 ⟨rfl, rfl⟩
              go_wp2_with fail
              refine TT.out.mono ?_
              rintro e w8 ⟨rfl, rfl⟩
              go_wp2_with fail
              refine (known_calls wr).mono ?_
              rintro e w9 ⟨rfl, b9⟩
              have B9 := Lib.hid (below_then hL2.out.2.bel hL2.out.2.bel.size b9)
              clear b9
              go_wp2
              go_ret
              exact ⟨rfl, B9.out⟩
end Go.Proofs.Ytiphkgkhfomcaaa.Duct
