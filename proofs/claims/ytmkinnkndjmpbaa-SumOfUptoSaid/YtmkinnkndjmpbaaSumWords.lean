/- The iterator words of chapter 3 (sum): the words of all lists, one list behind the other, whatever its loop's body, if that keeps what lay. -/
import Derived.Test.YtmkinnkndjmpbaaProg
import Derived.Test.YtmkinnkndjmpbaaFlat
import Derived.Test.YtmkinnkndjmpbaaSumPlain
import Derived.RangeFuncNested
import Derived.RangeFuncBound
import Derived.RangeFuncCalls
import Derived.RangeFuncLeaves
import Derived.Shelf.Abstract
import Derived.Shelf.RegionOpen
import Derived.WalkKit
import Derived.OwnWalkIn
import Derived.TacticsInMore
import Derived.LoopNIn
import Derived.LoopIn
import Derived.Lib.Hide
import Derived.Laws.BitsAllLaws
namespace Go.Proofs.Ytmkinnkndjmpbaa.Sum
open Go.RowKit Go.Shelf Go.Proofs.Ytmkinnkndjmpbaa.Aid Go.Proofs.Ytmkinnkndjmpbaa.SumPlain
attribute [local go_sem] Oper.semAt_some
/-- A list of bytes as it lies in memory. -/
structure Row where
  ad : Option Addr
  cap : Nat
  bytes : List Int
deriving Inhabited
def encRow (r : Row) : List Value := [.slice r.ad r.bytes.length r.cap]
def encB (x : Int) : List Value := [.int .u8 x]
def Lists (w : World) (A : Option Addr) (rows : List Row) : Prop :=
  Reps w A 1 encRow rows ∧ ∀ r ∈ rows, Reps w r.ad 1 encB r.bytes ∧ r.bytes.length ≤ 140737488351300 ∧ Bytes r.bytes
theorem Lists.below {w w' : World} {A : Option Addr} {rows : List Row} (h : Lists w A rows) (hb : Below w.heap.size w w') : Lists w' A rows :=
  ⟨h.1.below hb, fun r hr => ⟨(h.2 r hr).1.below hb, (h.2 r hr).2⟩⟩
def flatB (rows : List Row) : List Int := rows.flatMap (·.bytes)
abbrev W16 := { x : Int // 0 ≤ x ∧ x ≤ 65535 }
/-- What holds behind the bytes p: what has come, the byte that waits. -/
def St (p : List Int) (pre : List W16) (hi : Int) (b : Bool) : Prop :=
  pre.map (·.1) = done p ∧ b = decide (p.length % 2 = 1) ∧ (b = true → hi = 256 * pend p) ∧ 0 ≤ hi ∧ hi ≤ 65535
theorem or16 (hi x : Int) (h0 : 0 ≤ hi) (h1 : hi ≤ 65280) (h2 : hi % 256 = 0) (hx : 0 ≤ x ∧ x ≤ 255) : bits .or .u16 hi x = hi + x := by
  obtain ⟨q, rfl⟩ : ∃ q : Nat, hi = ((2 ^ 8 * q : Nat) : Int) := ⟨(hi / 256).toNat, by omega⟩
  obtain ⟨y, rfl⟩ := Int.eq_ofNat_of_zero_le hx.1
  rw [u16_or_nat _ _ (by omega) (by omega), ← Nat.two_pow_add_eq_or_of_lt (by omega)]
  omega
theorem st_end {p : List Int} {pre : List W16} {hi : Int} (h : St p pre hi false) : pre.map (·.1) = words p := by
  obtain ⟨h1, h2, _⟩ := h
  have : ¬ p.length % 2 = 1 := by simpa using h2
  rw [words_done, if_neg this, h1, List.append_nil]
theorem st_last {p : List Int} {pre : List W16} {hi : Int} (h : St p pre hi true) (y : W16) (hy : y.1 = hi) : (pre ++ [y]).map (·.1) = words p := by
  obtain ⟨h1, h2, h3, _⟩ := h
  have : p.length % 2 = 1 := by simpa using h2
  rw [words_done, if_pos this, List.map_append, h1, ← h3 rfl, ← hy]; rfl
theorem st_even {p : List Int} {pre : List W16} {hi x : Int} (h : St p pre hi false) (hx : 0 ≤ x ∧ x ≤ 255) : St (p ++ [x]) pre (x * 256) true := by
  obtain ⟨h1, h2, _, _, _⟩ := h
  have he : p.length % 2 = 0 := by
    have : ¬ p.length % 2 = 1 := by intro c; rw [decide_eq_true c] at h2; cases h2
    omega
  obtain ⟨d1, d2⟩ := done_even p x he
  refine ⟨by rw [d1]; exact h1, ?_, fun _ => by rw [d2]; omega, by omega, by omega⟩
  rw [List.length_append]
  symm
  rw [decide_eq_true_eq]
  simp only [List.length_singleton]
  omega
theorem st_odd {p : List Int} {pre : List W16} {hi x : Int} (h : St p pre hi true) (hp : Bytes p) (hx : 0 ≤ x ∧ x ≤ 255) (b : Int) : ∃ y : W16, y.1 = hi + x ∧ hi % 256 = 0 ∧ hi ≤ 65280 ∧ (0 ≤ b → b ≤ 65535 → St (p ++ [x]) (pre ++ [y]) b false) := by
  obtain ⟨h1, h2, h3, _, _⟩ := h
  have he : p.length % 2 = 1 := by simpa using h2
  have hh := h3 rfl
  have hb := pend_bd p hp
  refine ⟨⟨hi + x, by omega, by omega⟩, rfl, by omega, by omega, fun b0 b1 => ⟨?_, ?_, (fun c => by cases c), b0, b1⟩⟩
  · rw [done_odd p x he, List.map_append, h1, ← hh]; rfl
  · rw [List.length_append]
    symm
    rw [decide_eq_false_iff_not]
    simp only [List.length_singleton]
    omega
set_option maxRecDepth 100000 in
set_option maxHeartbeats 4000000 in
theorem words1_in (F : Fence) (n : Nat) (h35 : F.fn 35) (hro : F.round = none) (hn : 1 ≤ n) (l Bs : Nat) (A : Option Addr) (c : Nat) (rows : List Row) (hl : rows.length ≤ 140737488351300) (w0 : World) (hL : Lists w0 A rows) (J Jx : List W16 → World → Prop)
    (hY : ∀ pre (x : W16) W, J pre W → pre.length < (flatB rows).length + 1 → YieldAt F (n - 1) Try.prog l #[.int .u16 x.1] W fun e W' =>
      (e = .returned (.bool true) ∧ J (pre ++ [x]) W' ∧ Below w0.heap.size W W') ∨ (e = .returned (.bool false) ∧ Jx (pre ++ [x]) W'))
    (W : World) (hB0 : Below w0.heap.size w0 W) (hBs : W.cell? ⟨Bs, 0, none⟩ = some (.slice A rows.length c)) (h0 : J [] W) :
    CallsIn F n Try.prog 35 #[.func (.yield l) #[] #[], .pointer (some ⟨Bs, 0, none⟩)] W fun e W' => (∃ v, e = .returned v) ∧
      ((∃ ys : List W16, ys.map (·.1) = words (flatB rows) ∧ J ys W') ∨ (∃ pre, Jx pre W')) := by
  have HL := Lib.hid hL
  have HY := Lib.hid hY
  have HB0 := Lib.hid hB0
  have HJ0 := Lib.hid h0
  clear hL hY hB0 h0
  refine callsIn_of_wp Try.func35 rfl h35 ?_ hro
  simp only [Try.ntmps35, List.size_toArray, List.length_cons, List.length_nil, Nat.reduceAdd, Nat.reduceSub, Array.replicate_succ, Array.replicate_zero, List.push_toArray, List.append_toArray, List.nil_append, List.cons_append]
  gi_wp2
  gi_loopw [3, 4, 11] (fun h o i wr => ∃ (k : Nat) (pre : List W16) (hi : Int) (b : Bool), k ≤ rows.length ∧ i = .int .i64 k ∧ h = .int .u16 hi ∧ o = .bool b ∧ Hid (St (flatB (rows.take k)) pre hi b) ∧ Hid (J pre wr) ∧ Hid (Below w0.heap.size w0 wr)) (fun _ _ i _ => rows.length - (intOf i).toNat)
  case atStart => exact ⟨0, [], 0, false, by omega, rfl, rfl, rfl, Lib.hid ⟨rfl, rfl, by simp, by omega, by omega⟩, HJ0, HB0⟩
  case round =>
    obtain ⟨k, pre, hi, b, hk, rfl, rfl, rfl, hS, hJ, hB⟩ := hrel
    by_cases hlt : k < rows.length
    · obtain ⟨r, hr⟩ : ∃ r, rows[k]? = some r := ⟨_, List.getElem?_eq_getElem hlt⟩
      obtain ⟨ad, rfl, had, hc⟩ := (HL.out.below hB.out).1 k r hr
      obtain ⟨ra, rc, rb⟩ := r
      have c0 : wr.cell? (ad.add k) = some (.slice ra rb.length rc) := by have := hc 0 _ rfl; simpa using this
      clear hc
      gi_wp2
      obtain ⟨hrb, hrl, hrB⟩ := (HL.out.below hB.out).2 ⟨ra, rc, rb⟩ (List.mem_of_getElem? hr)
      have HRB := Lib.hid ((HL.out.2 ⟨ra, rc, rb⟩ (List.mem_of_getElem? hr)).1)
      have hfl : flatB (rows.take (k + 1)) = flatB (rows.take k) ++ rb := by
        have e : rows[k] = ⟨ra, rc, rb⟩ := (List.getElem?_eq_some_iff.1 hr).2
        rw [List.take_succ_eq_append_getElem hlt, e]; simp [flatB]
      have hle : (flatB (rows.take (k + 1))).length ≤ (flatB rows).length := by
        have e : flatB rows = flatB (rows.take (k + 1)) ++ flatB (rows.drop (k + 1)) := by
          unfold flatB
          rw [← List.flatMap_append, List.take_append_drop]
        rw [e, List.length_append]
        omega
      rw [hfl] at hle
      have HF := Lib.hid hfl
      have HE := Lib.hid hle
      have HBY := Lib.hid hrB
      obtain ⟨p, hp⟩ : ∃ p, p = flatB (rows.take k) := ⟨_, rfl⟩
      rw [← hp] at hS HF HE
      have HP := Lib.hid hp
      clear hrb hrB hfl hle hp hr
      dsimp only at hrl HRB HBY
      obtain ⟨wo, hwo⟩ : ∃ wo : World, wo = wr := ⟨_, rfl⟩
      have HWO := Lib.hid hwo
      rw [← hwo] at hJ hB c0
      rw [← hwo]
      clear hwo HWO
      gi_loopw [3, 4, 17] (fun h o j wi => ∃ (m : Nat) (pre : List W16) (hi : Int) (b : Bool), m ≤ rb.length ∧ j = .int .i64 m ∧ h = .int .u16 hi ∧ o = .bool b ∧ Hid (St (p ++ rb.take m) pre hi b) ∧ Hid (J pre wi) ∧ Hid (Below w0.heap.size w0 wi)) (fun _ _ j _ => rb.length - (intOf j).toNat)
      case atStart => exact ⟨0, pre, hi, b, by omega, rfl, rfl, rfl, Lib.hid (by simpa using hS.out), hJ, hB⟩
      case round =>
        obtain ⟨m, pre, hi, b, hm, rfl, rfl, rfl, hS, hJ, hB⟩ := hrel
        by_cases hlt2 : m < rb.length
        · obtain ⟨x, hx⟩ : ∃ x, rb[m]? = some x := ⟨_, List.getElem?_eq_getElem hlt2⟩
          obtain ⟨ad2, rfl, hl2, hc2⟩ := HRB.out.below hB.out m x hx
          have c2 : wr.cell? (ad2.add m) = some (.int .u8 x) := by have := hc2 0 _ rfl; simpa using this
          obtain ⟨x0, x1⟩ := HBY.out x (List.mem_of_getElem? hx)
          have htk : p ++ rb.take (m + 1) = (p ++ rb.take m) ++ [x] := by
            rw [List.take_succ_eq_append_getElem hlt2, (List.getElem?_eq_some_iff.1 hx).2, List.append_assoc]
          have HT := Lib.hid htk
          clear hc2 htk hx
          cases b with
          | false =>
            gi_wp2
            go_roundw
            case rel => exact ⟨m + 1, pre, x * 256, true, by omega, by go_num, rfl, rfl, Lib.hid (by rw [HT.out]; exact st_even hS.out ⟨x0, x1⟩), hJ, hB⟩
            case measure => simp [intOf]; omega
          | true =>
            have hpb : Bytes (p ++ rb.take m) := Bytes.append (by rw [HP.out]; intro y hy; obtain ⟨q, hq, hy⟩ := List.mem_flatMap.1 hy; exact (HL.out.2 q (List.mem_of_mem_take hq)).2.2 y hy) (fun y hy => HBY.out y (List.mem_of_mem_take hy))
            obtain ⟨y, hy1, hy2, hy3, hst⟩ := st_odd hS.out hpb ⟨x0, x1⟩ hi
            have HST := Lib.hid hst
            have hpl : pre.length < (flatB rows).length + 1 := by
              have h1 := congrArg List.length hS.out.1
              have h2 := done_len (p ++ rb.take m)
              rw [List.length_map] at h1
              rw [List.length_append, List.length_take] at h2
              have h3 := HE.out
              rw [List.length_append] at h3
              omega
            obtain ⟨fn, tmps, assign, body, hy, hR⟩ := HY.out pre y wr hJ.out hpl
            have HR := Lib.hid hR
            have hsv := hS.out.2.2.2
            have hor : bits .or .u16 hi x = hi + x := or16 hi x hsv.1 hy3 hy2 ⟨x0, x1⟩
            rw [hy1] at hy
            obtain ⟨s1, s2⟩ := hsv
            clear hst hR hpb
            gi_wp2
            refine HR.out.mono ?_
            rintro e W3 (⟨rfl, hJ3, hk3⟩ | ⟨rfl, hJx3⟩)
            · gi_wp2
              go_roundw
              case rel => exact ⟨m + 1, pre ++ [y], hi, false, by omega, by go_num, rfl, rfl, Lib.hid (by rw [HT.out]; exact HST.out s1 s2), Lib.hid hJ3, Lib.hid (hB.out.trans hk3)⟩
              case measure => simp [intOf]; omega
            · gi_wp2
              refine bodyPost_ret (results_none rfl _ _ _) rfl ?_
              exact ⟨⟨_, rfl⟩, .inr ⟨_, hJx3⟩⟩
        · obtain rfl : m = rb.length := by omega
          gi_wp2
          go_roundw
          case rel => exact ⟨k + 1, pre, hi, b, by omega, by go_num, rfl, rfl, Lib.hid (by rw [HF.out]; simpa using hS.out), hJ, hB⟩
          case measure => simp [intOf]; omega
    · obtain rfl : k = rows.length := by omega
      have hS2 : St (flatB rows) pre hi b := by simpa using hS.out
      have HS2 := Lib.hid hS2
      have hpl : pre.length < (flatB rows).length + 1 := by
        have h1 := congrArg List.length hS2.1
        have h2 := done_len (flatB rows)
        rw [List.length_map] at h1
        omega
      obtain ⟨s1, s2⟩ := hS2.2.2.2
      clear hS2
      cases b with
      | false =>
        gi_wp2
        go_end0
        exact ⟨⟨_, rfl⟩, .inl ⟨pre, st_end HS2.out, hJ.out⟩⟩
      | true =>
        obtain ⟨fn, tmps, assign, body, hy, hR⟩ := HY.out pre ⟨hi, s1, s2⟩ wr hJ.out hpl
        have HR := Lib.hid hR
        clear hR
        gi_wp2
        refine HR.out.mono ?_
        rintro e W3 (⟨rfl, hJ3, hk3⟩ | ⟨rfl, hJx3⟩)
        · gi_wp2
          go_end0
          exact ⟨⟨_, rfl⟩, .inl ⟨_, st_last HS2.out ⟨hi, s1, s2⟩ rfl, hJ3⟩⟩
        · gi_wp2
          go_end0
          exact ⟨⟨_, rfl⟩, .inr ⟨_, hJx3⟩⟩
end Go.Proofs.Ytmkinnkndjmpbaa.Sum
