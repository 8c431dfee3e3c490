/- The walks of joined and of SumOf. -/
import Derived.Test.YtmkinnkndjmpbaaSumTells
namespace Go.Proofs.Ytmkinnkndjmpbaa.Sum
open Go.RowKit Go.Shelf Go.Proofs.Ytmkinnkndjmpbaa.Aid Go.Proofs.Ytmkinnkndjmpbaa.SumPlain
def Joined (w : World) (bs : List Int) (e : Ending) (w' : World) : Prop :=
  ∃ v, e = .returned v ∧ w'.ownsRow w.heap.size 5 1 v bs.length (bs.flatMap encB) ∧ Below w.heap.size w w'
theorem flatB_snoc (rows : List Row) (k : Nat) (r : Row) (h : rows[k]? = some r) : flatB (rows.take (k + 1)) = flatB (rows.take k) ++ r.bytes := by
  rw [List.take_add_one, h]; simp [flatB]
theorem flatB_le (rows : List Row) (k : Nat) : (flatB (rows.take k)).length ≤ (flatB rows).length := by
  have e : flatB rows = flatB (rows.take k) ++ flatB (rows.drop k) := by unfold flatB; rw [← List.flatMap_append, List.take_append_drop]
  rw [e, List.length_append]; omega
set_option maxRecDepth 100000 in
set_option maxHeartbeats 1000000 in
theorem joined_calls (A : Option Addr) (c : Nat) (rows : List Row) (w : World) (h : Lists w A rows) (hn : ∀ r ∈ rows, r.ad = none → r.cap = 0) (ht : (flatB rows).length ≤ 1048576) (hl : rows.length ≤ 140737488351300) :
    Calls Try.prog 25 #[.slice A rows.length c] w (Joined w (flatB rows)) := by
  obtain ⟨i0, hi0, hz0, hz1, hz2⟩ := info_parts byteInfo
  have H := Lib.hid h
  have HN := Lib.hid hn
  clear h hn
  go_enter Try.func25, Try.ntmps25
  go_wp2
  go_loopw [3, 4] (fun v i wr => ∃ k : Nat, k ≤ rows.length ∧ i = .int .i64 k ∧ Hid (wr.ownsRow w.heap.size 5 1 v (flatB (rows.take k)).length ((flatB (rows.take k)).flatMap encB)) ∧ Hid (Below w.heap.size w wr)) (fun _ i _ => rows.length - (intOf i).toNat)
  case atStart => exact ⟨0, by omega, rfl, Lib.hid (World.ownsRow_nil _ _ _ _), Lib.hid (Below.refl _ _)⟩
  case round =>
    obtain ⟨k, hk, rfl, hO, hB⟩ := hrel
    by_cases hlt : k < rows.length
    · obtain ⟨r, hr⟩ : ∃ r, rows[k]? = some r := ⟨_, List.getElem?_eq_getElem hlt⟩
      obtain ⟨ad, rfl, _, hc⟩ := (H.out.1.below hB.out).at_ hr
      have c0 := hc 0 _ rfl
      simp only [Nat.mul_one, Nat.add_zero] at c0
      obtain ⟨hrr, hrl, hrb⟩ := H.out.2 r (List.mem_of_getElem? hr)
      have hrn := HN.out r (List.mem_of_getElem? hr)
      have hsn := flatB_snoc rows k r hr
      have hle := flatB_le rows (k + 1)
      rw [hsn, List.length_append] at hle
      have HS := Lib.hid hsn
      have HR := Lib.hid hrr
      clear hsn hrr hc hr
      obtain ⟨m, hm⟩ : ∃ m, m = flatB (rows.take k) := ⟨_, rfl⟩
      rw [← hm] at hO HS hle
      have HM := Lib.hid hm
      clear hm
      obtain ⟨ra, rc, rb⟩ := r
      simp only at *
      rcases ra with _ | ra
      · obtain rfl := hrn rfl
        have hnil : rb = [] := by
          cases rb with
          | nil => rfl
          | cons x t => obtain ⟨ad', e, _⟩ := HR.out 0 x rfl; cases e
        subst hnil
        go_wp2_with (at_builtin; refine wpList_append_own_none rfl (.tmp 11) (.tmp 15) 40 rfl w.heap.size 5 i0 1 Try.underlying40 hi0 u3 m.length (m.flatMap encB) rfl hO.out rfl ?_)
        go_roundw
        case rel => exact ⟨k + 1, by omega, by go_num, Lib.hid (by rw [HS.out]; simpa using hO.out), hB⟩
        case measure => simp [intOf]; omega
      · go_wp2_with (at_builtin; refine wpList_append_own _ rfl (.tmp 11) (.tmp 15) 40 rfl w.heap.size 5 i0 (.int .u8 0) 1 1 Try.underlying40 hi0 hz0 hz1 hz2 rfl (by decide) u3 m.length (m.flatMap encB) rfl hO.out ra rb.length rc (rb.flatMap encB) rfl (byte_flat rb) ((HR.out.below hB.out).cells encB_len (by decide) ra rfl) (byte_one rb) (by unfold maxLen; omega) (by omega) hB.out.size ?_; intro v4 w4 hown4 hg4 _; have B4 := Lib.hid (grown_own hB.out hB.out.size hO.out hg4); have O4 := Lib.hid hown4; clear hown4 hg4)
        go_roundw
        case rel => exact ⟨k + 1, by omega, by go_num, Lib.hid (by rw [HS.out]; simpa using O4.out), B4⟩
        case measure => simp [intOf]; omega
    · have hke : k = rows.length := by omega
      subst hke
      rw [List.take_length] at hO
      go_wp2
      go_ret
      exact ⟨_, rfl, hO.out, hB.out⟩
theorem own_reads5 {w : World} {base n : Nat} {v : Value} {bs : List Int} (h : w.ownsRow base 5 1 v n (bs.flatMap encB)) : ∃ A c, v = .slice A bs.length c ∧ Reps w A 1 encB bs := by
  obtain ⟨A, c, e, _, hr, hl⟩ := own_reads h encB_len (by decide)
  exact ⟨A, c, by rw [hl]; exact e, hr⟩
set_option maxRecDepth 100000 in
set_option maxHeartbeats 2000000 in
theorem sumof_walk (A : Option Addr) (c : Nat) (rows : List Row) (a b : Int) (w : World) (h : Lists w A rows) (hn : ∀ r ∈ rows, r.ad = none → r.cap = 0) (ht : (flatB rows).length ≤ 1048576) (hl : rows.length ≤ 140737488351300) (ha : 0 ≤ a ∧ a ≤ 65535) (hb : 0 ≤ b ∧ b ≤ 65535) :
    Calls Try.prog 9 #[.slice A rows.length c, .int .u16 a, .int .u16 b] w (Yes w) := by
  have H := Lib.hid h
  have J := Lib.hid (fun (W : World) (hB : Below w.heap.size w W) => joined_calls A c rows W (H.out.below hB) hn ht hl)
  have O := Lib.hid (fun (W : World) (hB : Below w.heap.size w W) => of_calls A c rows hl W (H.out.below hB))
  have hs := sum_bd (flatB rows)
  have K := Lib.hid (fun (W : World) (hB : Below w.heap.size w W) => check_calls A c rows.length (sumOf (flatB rows)) W hs (O.out W hB))
  have HB := Lib.hid (flat_bytes h)
  have HA := Lib.hid (fun (W : World) => add_calls a b W ha hb)
  have HF := Lib.hid (fun (W : World) => fold_calls (a + b) W (by omega) (by omega))
  have cb := canon_bd (a + b)
  obtain ⟨bs, hbs⟩ : ∃ bs, bs = flatB rows := ⟨_, rfl⟩
  rw [← hbs] at J O hs K HB ht
  clear h hn hbs
  generalize canon (a + b) = q at *
  obtain ⟨a0, a1⟩ := ha
  obtain ⟨b0, b1⟩ := hb
  obtain ⟨q0, q1⟩ := cb
  go_enter Try.func9, Try.ntmps9
  go_wp2_with fail
  refine (known_calls _).mono ?_
  rintro e w1 ⟨rfl, b1⟩
  have B1 := Lib.hid b1
  clear b1
  go_wp2_with fail
  refine (J.out w1 B1.out).mono ?_
  rintro e w2 ⟨v2, rfl, o2, b2⟩
  obtain ⟨A2, c2, rfl, r2⟩ := own_reads5 o2
  have B2 := Lib.hid (below_then B1.out B1.out.size b2)
  have I2 : Hid (In w2 A2 bs) := Lib.hid ⟨r2, by omega, HB.out⟩
  clear b2 o2 r2
  have RF := Lib.hid (ref_of A2 c2 bs w2 I2.out)
  obtain ⟨s, hs2⟩ : ∃ s, s = sumOf bs := ⟨_, rfl⟩
  obtain ⟨n, hn2⟩ : ∃ n, n = bs.length := ⟨_, rfl⟩
  have FN := Lib.hid (fun (W : World) (hB : Below w2.heap.size w2 W) => fine_calls A2 c2 bs W (I2.out.below hB))
  rw [← hs2] at O K RF FN hs
  rw [← hn2] at RF FN
  obtain ⟨s0, s1⟩ := hs
  clear hs2
  rw [← hn2]
  clear hn2 ht
  go_wp2_with fail
  refine RF.out.mono ?_
  rintro e w3 ⟨rfl, rfl⟩
  go_wp2_with fail
  refine (O.out w2 B2.out).mono ?_
  rintro e w3 ⟨rfl, b3⟩
  have B3 := Lib.hid (below_then B2.out B2.out.size b3)
  have D3 := Lib.hid b3
  clear b3
  go_wp2_with fail
  refine (K.out w3 B3.out).mono ?_
  rintro e w4 ⟨rfl, b4⟩
  have B4 := Lib.hid (below_then B3.out B3.out.size b4)
  have D4 := Lib.hid (below_then D3.out D3.out.size b4)
  clear b4
  go_wp2_with fail
  refine (FN.out w4 D4.out).mono ?_
  rintro e w5 ⟨rfl, b5⟩
  have B5 := Lib.hid (below_then B4.out B4.out.size b5)
  clear b5
  by_cases e1 : s = 65535
  all_goals
    go_wp2_with fail
    refine (HA.out _).mono ?_
    rintro e w6 ⟨rfl, rfl⟩
    go_wp2_with fail
    refine (HF.out _).mono ?_
    rintro e w6 ⟨rfl, rfl⟩
    go_wp2_with fail
    refine (known_calls _).mono ?_
    rintro e w8 ⟨rfl, b8⟩
    go_wp2
    go_ret
    exact ⟨(by first | rfl | exact ret_bool (by simp [e1])), below_then B5.out B5.out.size b8⟩
end Go.Proofs.Ytmkinnkndjmpbaa.Sum
