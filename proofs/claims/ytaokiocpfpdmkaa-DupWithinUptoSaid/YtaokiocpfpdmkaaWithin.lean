/- DupWithin: whatever blocks say, all that is told lies in the window, and each block is told once. -/
import Derived.Test.YtaokiocpfpdmkaaDupLaws
import Derived.Test.YtaokiocpfpdmkaaDupPlain
import Derived.BigQuiet
set_option linter.unusedSimpArgs false
set_option linter.unusedVariables false
attribute [local go_sem ↓] Go.wp_at_zero Go.wp_at_succ
namespace Go.Proofs.Ytaokiocpfpdmkaa.Dups
open Go.BigFrame Go.RowKit Go.OpenShut Go.Proofs.Ytaokiocpfpdmkaa.Aid Go.Proofs.Ytaokiocpfpdmkaa.Spans
open Led (encS encS_len encS_one info26 row_alloc row_drew src_one)
attribute [local go_sem high] eq_spans
set_option maxRecDepth 100000 in
set_option maxHeartbeats 4000000 in
theorem within_walk (una nxt num : Int) (A : Option Addr) (c : Nat) (l : List Block) (w : World) (u0 : 0 ≤ num) (u1 : num < 4294967296) (hn : l.length ≤ maxLen) (hn16 : l.length * 16 ≤ 140737488351232) (hcap : l.length ≤ c) (ub : -9223372036854775808 ≤ una) (hw : ∀ b ∈ l, WfK b) (hr : Reps w A 2 encK l) :
    Calls Try.prog 4 #[.int .i64 una, .int .i64 nxt, .int .u32 num, .slice A l.length c] w (Yes w) := by
  have R := Lib.hid hr
  have K1 := Lib.hid (fun W h => look_calls una nxt num A c l W u0 u1 hn hn16 hcap hw h)
  unfold maxLen at hn
  clear hr hw
  have HN := Lib.hid (fun h => look_no (una := una) (nxt := nxt) (num := num) (l := l) h)
  have HY := Lib.hid (fun h => look_yes (una := una) (nxt := nxt) (num := num) (l := l) h)
  generalize look una nxt num l = r at *
  obtain ⟨t, er⟩ := r
  simp only at HN HY
  go_enter Try.func4, Try.ntmps4
  go_wp2_with fail
  refine (known_calls _).mono ?_
  rintro e w1 ⟨rfl, b1⟩
  have B1 := Lib.hid b1
  clear b1
  go_wp2_with fail
  refine (K1.out _ (R.out.below B1.out)).mono ?_
  rintro e w2 ⟨S1, n1, c1, rfl, hr1, ho1, hb1⟩
  have H1 := Lib.hid (held_new 29 B1.out hr1 ho1 hb1)
  obtain ⟨rfl, hsl, _⟩ := row_len hr1
  clear hr1 ho1 hb1
  by_cases her : er = 0
  · subst her
    obtain ⟨ht, y1, y2, y3, y4, y5, y6⟩ := HY.out rfl
    have h1 : ∀ s ∈ t.sacks, 0 < len s ∧ unw una num < s.lo ∧ s.hi ≤ nxt := by rw [ht]; exact fun s hs => sacks_in hs
    have h2 : t.sacks.length + t.bad + (if t.isDup = true then 1 else 0) = l.length := by rw [ht]; exact count_all _ _ _
    have h3 : t.dup.hi ≤ nxt := by rw [ht]; exact tsp_hi l y3 (by omega)
    have h4 : decide (0 < len t.dup) = t.isDup := by rw [ht]; exact len_tsp _ _ _
    have h5 : t.ack = unw una num := by rw [ht]; rfl
    rw [← h5] at h1 y1 y2 y3
    obtain ⟨ta, ti, td, ts, tb⟩ := t
    simp only at h1 h2 h3 h4 hsl y1 y2 y3
    have HS := Lib.hid h1
    have HC := Lib.hid h2
    have HD := Lib.hid h4
    clear h1 h2 h4 h5 ht HN HY K1 R
    unfold cellsT at H1 ⊢
    simp only at H1 ⊢
    have hbl : (ts.length : Int) + (tb : Int) ≤ 8796093022207 := by
      have := HC.out
      omega
    have htb : (tb : Int) ≤ 8796093022207 := by omega
    have htl : (ts.length : Int) ≤ 8796093022207 := by omega
    go_upto_region 6 with fail
    generalize w2.alloc (.cells #[.int .i64 ta, .bool ti, .int .i64 td.lo, .int .i64 td.hi, .slice S1 ts.length c1, .int .i64 tb] 29) = W at *
    generalize w2.heap.size = g at *
    go_wp2
    go_loopw [11] (fun i wr => ∃ k : Nat, k ≤ ts.length ∧ i = .int .i64 k ∧ Hid (Held 29 w wr g ⟨ta, ti, td, ts, tb⟩ (.slice S1 ts.length c1))) (fun i _ => ts.length - (intOf i).toNat)
    case atStart => exact ⟨0, by omega, rfl, H1⟩
    case round =>
      obtain ⟨k, hk, rfl, hH⟩ := hrel
      clear H1
      have x3 : wr.cell? ⟨g, 4, Option.none⟩ = some (.slice S1 ts.length c1) := hH.out.box.cell 4
      by_cases hlt : k < ts.length
      · obtain ⟨s, hs⟩ : ∃ s, ts[k]? = some s := ⟨_, List.getElem?_eq_getElem hlt⟩
        obtain ⟨s1, s2, s3⟩ := HS.out s (List.mem_of_getElem? hs)
        obtain ⟨_, _, hR⟩ := row_len hH.out.row
        have HR := Lib.hid hR
        obtain ⟨ad, rfl, _, _⟩ := hR k s hs
        have z0 : (len s == 0) = false := by simp; omega
        have z1 : decide (s.lo ≤ ta) = false := decide_eq_false (by omega)
        have z2 : decide (nxt < s.hi) = false := decide_eq_false (by omega)
        have k0 : (0 : Int) ≤ (k : Int) := by omega
        have k1 : (k : Int) < (ts.length : Int) := by omega
        have e0 : ∀ d os, (Go.Sort.grow (redrawn wr d) os).cell? ⟨g, 0, Option.none⟩ = some (.int .i64 ta) := fun d os => (hH.out.box.regrown d os).cell 0
        have e4 : ∀ d os, (Go.Sort.grow (redrawn wr d) os).cell? ⟨g, 4, Option.none⟩ = some (.slice (some ad) ts.length c1) := fun d os => (hH.out.box.regrown d os).cell 4
        have cc : ∀ d os, ∀ (j : Nat) (v : Value), (encS s)[j]? = some v → (Go.Sort.grow (redrawn wr d) os).cell? (ad.add (k * 2 + j)) = some v := fun d os j v hv => by
          obtain ⟨ad', e, _, hc⟩ := (HR.out.below (below_regrown wr d os)) k s hs
          cases e
          exact hc j v hv
        have f0 : ∀ d os, (Go.Sort.grow (redrawn wr d) os).cell? (ad.add (k * 2)) = some (.int .i64 s.lo) := fun d os => cc d os 0 _ rfl
        have f1 : ∀ d os, (Go.Sort.grow (redrawn wr d) os).cell? ⟨(ad.add (k * 2)).block, (ad.add (k * 2)).off + 1, Option.none⟩ = some (.int .i64 s.hi) := fun d os => (add_next ad (k * 2) 1 (by omega)) ▸ cc d os 1 _ rfl
        have L := Lib.hid (fun d os => Calls.regrown_of (len_ref s (Go.Sort.grow (redrawn wr d) os)))
        clear hR cc hs
        generalize len s = z at *
        go_wp2
        refine wp_region_quiet_below (by kernel_rfl) (by kernel_rfl) ?_
        repeat (go_big_quiet_step (exact L.out _ _))
        refine wpQuiet_nil ?_
        rintro _ ⟨⟨nq, osq⟩, rfl⟩
        go_wp2
        go_roundw
        case rel => exact ⟨k + 1, by omega, by go_num, Lib.hid (hH.out.below (below_regrown wr nq osq))⟩
        case measure => simp [intOf]; omega
      · obtain rfl : k = ts.length := by omega
        have x1 : wr.cell? ⟨g, 1, Option.none⟩ = some (.bool ti) := hH.out.box.cell 1
        have x5 : wr.cell? ⟨g, 5, Option.none⟩ = some (.int .i64 tb) := hH.out.box.cell 5
        have e0 : ∀ d os, (Go.Sort.grow (redrawn wr d) os).cell? ⟨g, 0, Option.none⟩ = some (.int .i64 ta) := fun d os => (hH.out.box.regrown d os).cell 0
        have e1 : ∀ d os, (Go.Sort.grow (redrawn wr d) os).cell? ⟨g, 1, Option.none⟩ = some (.bool ti) := fun d os => (hH.out.box.regrown d os).cell 1
        have e2 : ∀ d os, (Go.Sort.grow (redrawn wr d) os).cell? ⟨g, 2, Option.none⟩ = some (.int .i64 td.lo) := fun d os => (hH.out.box.regrown d os).cell 2
        have e3 : ∀ d os, (Go.Sort.grow (redrawn wr d) os).cell? ⟨g, 3, Option.none⟩ = some (.int .i64 td.hi) := fun d os => (hH.out.box.regrown d os).cell 3
        have L := Lib.hid (fun d os => Calls.regrown_of (len_ref td (Go.Sort.grow (redrawn wr d) os)))
        have K := Lib.hid (fun d os => Calls.regrown_of (known_calls (Go.Sort.grow (redrawn wr d) os)))
        have w1 : decide (ta ≤ nxt) = true := decide_eq_true y3
        have w2 : decide (una - 65536 ≤ ta) = true := decide_eq_true (by omega)
        have w3 : decide (td.hi ≤ nxt) = true := decide_eq_true h3
        generalize len td = z at *
        cases ti with
        | true =>
          have hz : decide (0 < z) = true := HD.out
          have hl : l.length = ts.length + tb + 1 := by have := HC.out; simp at this; omega
          have hq1 : ((ts.length : Int) + (tb : Int) + 1 == (l.length : Int)) = true := by simp; omega
          clear hl hlt
          go_upto_region 14 with fail
          refine wp_region_quiet_below (by kernel_rfl) (by kernel_rfl) ?_
          repeat (go_big_quiet_step (first | exact L.out _ _ | exact K.out _ _))
          refine wpQuiet_nil ?_
          rintro _ ⟨⟨nq, osq⟩, rfl⟩
          go_wp2
          go_ret
          exact ⟨rfl, below_then hH.out.bel hH.out.bel.size (below_regrown wr nq osq)⟩
        | false =>
          have hz : decide (0 < z) = false := HD.out
          have hl : l.length = ts.length + tb := by have := HC.out; simp at this; omega
          have hq1 : ((ts.length : Int) + (tb : Int) == (l.length : Int)) = true := by simp; omega
          clear hl hlt
          go_upto_region 14 with fail
          refine wp_region_quiet_below (by kernel_rfl) (by kernel_rfl) ?_
          repeat (go_big_quiet_step (first | exact L.out _ _ | exact K.out _ _))
          refine wpQuiet_nil ?_
          rintro _ ⟨⟨nq, osq⟩, rfl⟩
          go_wp2
          go_ret
          exact ⟨rfl, below_then hH.out.bel hH.out.bel.size (below_regrown wr nq osq)⟩
  · have hz := HN.out her
    subst hz
    have her2 : (er == 0) = false := by simpa using her
    have her3 : decide (er = 0) = false := by simpa using her
    clear her HN HY K1 R
    have e0 : zero.sacks.length = 0 := rfl
    unfold cellsT at H1 ⊢
    rw [e0] at H1 ⊢
    simp only [zero] at H1 ⊢
    go_wp2_with fail
    refine (known_calls _).mono ?_
    rintro e w3 ⟨rfl, b3⟩
    go_wp2
    go_ret
    exact ⟨rfl, bn_then H1.out.bel b3⟩
end Go.Proofs.Ytaokiocpfpdmkaa.Dups
