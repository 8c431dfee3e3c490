/- LedgerCounts: as many are pending as were sent once more, less one for each that came once more and was known. -/
import Derived.Test.YtaokiocpfpdmkaaLedLaws
import Derived.Deep.RegionHeld3
import Derived.Deep.DrawnRows
import Derived.Deep.DeepCutAuto
attribute [local go_sem ↓] Go.wp_at_zero Go.wp_at_succ
namespace Go.Proofs.Ytaokiocpfpdmkaa.Led
open Go.BigFrame Go.RowKit Go.OpenShut Go.Proofs.Ytaokiocpfpdmkaa.Aid Go.Proofs.Ytaokiocpfpdmkaa.Spans
/-- Something that is done, as it lies in memory. -/
structure Op where
  kind : Int
  a : Int
  b : Int
  span : Span
deriving Inhabited
def encOp (o : Op) : List Value := [.int .u8 o.kind, .int .i64 o.a, .int .i64 o.b, .int .i64 o.span.lo, .int .i64 o.span.hi]
def WfOp (o : Op) : Prop := 0 ≤ o.kind ∧ o.kind ≤ 255
theorem goes_len (s : Span) : ∀ xs : List Span, any s xs = true → (goes s xs).length + 1 = xs.length
  | [], h => by simp [any] at h
  | x :: r, h => by
    by_cases hx : holds s x = true
    · simp [goes, hx]
    · have h2 : any s r = true := by
        unfold any at h ⊢
        simp only [List.any_cons, Bool.or_eq_true] at h
        exact h.resolve_left hx
      have := goes_len s r h2
      simp [goes, hx, this]
theorem goes_same (s : Span) : ∀ xs : List Span, any s xs = false → goes s xs = xs
  | [], _ => rfl
  | x :: r, h => by
    unfold any at h
    simp only [List.any_cons, Bool.or_eq_false_iff] at h
    have := goes_same s r h.2
    simp [goes, h.1, this]
/-- Behind what is done: n are pending, and the ledger stands. -/
def After (w : World) (g : Nat) (n : Nat) (W : World) : Prop := n ≤ 256 ∧ ∃ v L, n = L.list.length ∧ St w W g v L
theorem After.mk {w W : World} {g n : Nat} {v : Value} {L : Led} (h : St w W g v L) (hn : n = L.list.length) : After w g n W := ⟨hn ▸ h.led.row.1, v, L, hn, h⟩
theorem pending_eq {w W : World} {g : Nat} {v : Value} {L : Led} (h : St w W g v L) (m : Int) (e : (L.list.length : Int) = m) : Calls Try.prog 30 #[.pointer (some ⟨g, 0, none⟩)] W (Same W (.int .i64 m)) := e ▸ pending_calls g v L W h.led
set_option maxRecDepth 100000 in
set_option maxHeartbeats 8000000 in
theorem counts_walk (A : Option Addr) (c : Nat) (ops : List Op) (w : World) (hn : ops.length ≤ maxLen) (hw : ∀ o ∈ ops, WfOp o) (hr : Aid.Reps w A 5 encOp ops) :
    Calls Try.prog 7 #[.slice A ops.length c] w (Yes w) := by
  unfold maxLen at hn
  have R := Lib.hid hr
  have HW := Lib.hid hw
  clear hr hw
  go_enter Try.func7, Try.ntmps7
  go_wp2_with fail
  refine (known_calls _).mono ?_
  rintro e w1 ⟨rfl, b1⟩
  go_wp2_with fail
  refine (new_calls _).mono ?_
  rintro e w2 ⟨rfl, hL, b2, hg, hlt⟩
  have S2 : St w w2 w1.heap.size (.slice none 0 0) ⟨false, 0, 0, [], false⟩ := ⟨hL, b1.size, by simp [Value.ownBlock], below_then b1 b1.size b2⟩
  have A2 := Lib.hid (After.mk S2 (n := 0) rfl)
  generalize w1.heap.size = g at *
  clear hL b2 hg b1 S2 hlt
  clear w1
  go_wp2
  go_loopw [4, 5] (fun cn i wr => ∃ (k n : Nat), k ≤ ops.length ∧ k ≤ 600 ∧ i = .int .i64 k ∧ cn = .int .i64 n ∧ Hid (After w g n wr)) (fun _ i _ => 600 - (intOf i).toNat)
  case atStart => exact ⟨0, 0, by omega, by omega, rfl, rfl, A2⟩
  case round =>
    obtain ⟨k, n, hk, hk2, rfl, rfl, hA⟩ := hrel
    clear A2
    by_cases hlt : k < ops.length
    · by_cases hlt2 : k < 600
      · obtain ⟨op, hop⟩ : ∃ op, ops[k]? = some op := ⟨_, List.getElem?_eq_getElem hlt⟩
        have HOP := Lib.hid hop
        have ⟨kb0, kb1⟩ := HW.out op (List.mem_of_getElem? hop)
        obtain ⟨hn256, v, L, hnl, hS⟩ := hA.out
        have HS := Lib.hid hS
        have HNL := Lib.hid hnl
        obtain ⟨ad, rfl, had, hc⟩ := (R.out.below hS.bel) k op hop
        have cell : ∀ W, Below w.heap.size w W → W.cell? (ad.add (k * 5)) = some (.int .u8 op.kind) ∧ W.cell? ⟨(ad.add (k * 5)).block, (ad.add (k * 5)).off + 1, none⟩ = some (.int .i64 op.a) ∧ W.cell? ⟨(ad.add (k * 5)).block, (ad.add (k * 5)).off + 2, none⟩ = some (.int .i64 op.b) ∧
            W.cell? ⟨(ad.add (k * 5)).block, (ad.add (k * 5)).off + 3, none⟩ = some (.int .i64 op.span.lo) ∧ W.cell? ⟨(ad.add (k * 5)).block, (ad.add (k * 5)).off + 4, none⟩ = some (.int .i64 op.span.hi) := by
          intro W hW
          obtain ⟨ad', e, _, hc'⟩ := (R.out.below hW) k op hop
          cases e
          exact ⟨hc' 0 _ rfl, (add_next ad (k * 5) 1 (by omega)) ▸ hc' 1 _ rfl, (add_next ad (k * 5) 2 (by omega)) ▸ hc' 2 _ rfl, (add_next ad (k * 5) 3 (by omega)) ▸ hc' 3 _ rfl, (add_next ad (k * 5) 4 (by omega)) ▸ hc' 4 _ rfl⟩
        have CELL := Lib.hid cell
        obtain ⟨c0, c1, c2, c3, c4⟩ := cell wr hS.bel
        clear hc cell hop hS hnl hA
        obtain ⟨kind, oa, ob, sp⟩ := op
        simp only at kb0 kb1 c0 c1 c2 c3 c4
        have kk0 : (0 : Int) ≤ (k : Int) := by omega
        have kk1 : (k : Int) < (ops.length : Int) := by omega
        have kk2 : (k : Int) < 600 := by omega
        have nb : (n : Int) ≤ 256 := by omega
        have hkk : kind % 6 = 0 ∨ kind % 6 = 1 ∨ kind % 6 = 2 ∨ kind % 6 = 3 ∨ kind % 6 = 4 ∨ kind % 6 = 5 := by omega
        rcases hkk with hkk | hkk | hkk | hkk | hkk | hkk
        · by_cases ho : L.opn = true
          · go_wp2
            go_region_held3 (fun w' => w'.cell? ⟨(ad.add (k * 5)).block, (ad.add (k * 5)).off + 1, Option.none⟩ = some (.int .i64 oa) ∧ w'.cell? ⟨(ad.add (k * 5)).block, (ad.add (k * 5)).off + 2, Option.none⟩ = some (.int .i64 ob)) (go_keep) (first
              | (go_at_call 28
                 refine (cut_no g v L oa ob _ (HS.out.below (below_drew (Below.refl _ wr))).led ho).mono ?_
                 rintro e w3 ⟨rfl, rfl⟩))
            clear ho
            have HSD := Lib.hid (St.below HS.out (below_drew (Below.refl _ wr)))
            have P := Lib.hid (pending_eq HSD.out (n) (by rw [← HNL.out]))
            have AF := Lib.hid (After.mk HSD.out (n := n) (HNL.out))
            go_wp2_with fail
            refine P.out.mono ?_
            rintro e w9 ⟨rfl, rfl⟩
            go_wp2
            go_roundw
            case rel => exact ⟨k + 1, n, by omega, by omega, by go_num, by first | rfl | go_num | (congr 1; omega), AF⟩
            case measure => simp [intOf]; omega
          · have ho2 : L.opn = false := by simpa using ho
            go_wp2
            go_region_held3 (fun w' => w'.cell? ⟨(ad.add (k * 5)).block, (ad.add (k * 5)).off + 1, Option.none⟩ = some (.int .i64 oa) ∧ w'.cell? ⟨(ad.add (k * 5)).block, (ad.add (k * 5)).off + 2, Option.none⟩ = some (.int .i64 ob)) (go_keep) (first
              | (go_at_call 28
                 refine (cut_yes g v L oa ob _ (HS.out.below (below_drew (Below.refl _ wr))).led ho2).mono ?_
                 intro e w3 d
                 obtain ⟨rfl, v3, S3, _, _⟩ := (HS.out.below (below_drew (Below.refl _ wr))).does d
                 obtain ⟨_, d1, d2, _, _⟩ := CELL.out w3 S3.bel
                 have HS3 := Lib.hid S3
                 clear S3 d))
            clear ho ho2
            have P := Lib.hid (pending_eq HS3.out (n) (by rw [← HNL.out]))
            have AF := Lib.hid (After.mk HS3.out (n := n) (HNL.out))
            go_wp2_with fail
            refine P.out.mono ?_
            rintro e w9 ⟨rfl, rfl⟩
            go_wp2
            go_roundw
            case rel => exact ⟨k + 1, n, by omega, by omega, by go_num, by first | rfl | go_num | (congr 1; omega), AF⟩
            case measure => simp [intOf]; omega
        · by_cases hl : len sp = 0
          · go_wp2_with fail
            refine (again_range g sp wr hl).mono ?_
            rintro e w3 ⟨rfl, b3⟩
            have HS3 := Lib.hid (HS.out.below b3)
            clear b3
            have P := Lib.hid (pending_eq HS3.out (n) (by rw [← HNL.out]))
            have AF := Lib.hid (After.mk HS3.out (n := n) (HNL.out))
            go_wp2_with fail
            refine P.out.mono ?_
            rintro e w9 ⟨rfl, rfl⟩
            go_wp2
            go_roundw
            case rel => exact ⟨k + 1, n, by omega, by omega, by go_num, by first | rfl | go_num | (congr 1; omega), AF⟩
            case measure => simp [intOf]; omega
          · by_cases hf : L.list.length = 256
            · go_wp2_with fail
              refine (again_full g v L sp wr HS.out.led hl hf).mono ?_
              intro e w3 d
              obtain ⟨rfl, v3, S3, _, _⟩ := HS.out.does d
              have HS3 := Lib.hid S3
              clear S3 d
              have P := Lib.hid (pending_eq HS3.out (n) (by rw [← HNL.out]))
              have AF := Lib.hid (After.mk HS3.out (n := n) (HNL.out))
              go_wp2_with fail
              refine P.out.mono ?_
              rintro e w9 ⟨rfl, rfl⟩
              go_wp2
              go_roundw
              case rel => exact ⟨k + 1, n, by omega, by omega, by go_num, by first | rfl | go_num | (congr 1; omega), AF⟩
              case measure => simp [intOf]; omega
            · have hf2 : L.list.length < 256 := by have := HS.out.led.row.1; omega
              have nb2 : (n : Int) + 1 ≤ 256 := by have := HNL.out; omega
              go_wp2_with fail
              refine (again_ok g v L sp wr HS.out.led hl hf2).mono ?_
              intro e w3 d
              obtain ⟨rfl, v3, S3, _, _⟩ := HS.out.does d
              have HS3 := Lib.hid S3
              clear S3 d
              have P := Lib.hid (pending_eq HS3.out ((n : Int) + 1) (by have := HNL.out; simp; omega))
              have AF := Lib.hid (After.mk HS3.out (n := (n + 1)) (by have := HNL.out; simp; omega))
              go_wp2_with fail
              refine P.out.mono ?_
              rintro e w9 ⟨rfl, rfl⟩
              go_wp2
              go_roundw
              case rel => exact ⟨k + 1, (n + 1), by omega, by omega, by go_num, by first | rfl | go_num | (congr 1; omega), AF⟩
              case measure => simp [intOf]; omega
        · by_cases hl : len sp = 0
          · go_wp2_with fail
            refine (again_range g sp wr hl).mono ?_
            rintro e w3 ⟨rfl, b3⟩
            have HS3 := Lib.hid (HS.out.below b3)
            clear b3
            have P := Lib.hid (pending_eq HS3.out (n) (by rw [← HNL.out]))
            have AF := Lib.hid (After.mk HS3.out (n := n) (HNL.out))
            go_wp2_with fail
            refine P.out.mono ?_
            rintro e w9 ⟨rfl, rfl⟩
            go_wp2
            go_roundw
            case rel => exact ⟨k + 1, n, by omega, by omega, by go_num, by first | rfl | go_num | (congr 1; omega), AF⟩
            case measure => simp [intOf]; omega
          · by_cases hf : L.list.length = 256
            · go_wp2_with fail
              refine (again_full g v L sp wr HS.out.led hl hf).mono ?_
              intro e w3 d
              obtain ⟨rfl, v3, S3, _, _⟩ := HS.out.does d
              have HS3 := Lib.hid S3
              clear S3 d
              have P := Lib.hid (pending_eq HS3.out (n) (by rw [← HNL.out]))
              have AF := Lib.hid (After.mk HS3.out (n := n) (HNL.out))
              go_wp2_with fail
              refine P.out.mono ?_
              rintro e w9 ⟨rfl, rfl⟩
              go_wp2
              go_roundw
              case rel => exact ⟨k + 1, n, by omega, by omega, by go_num, by first | rfl | go_num | (congr 1; omega), AF⟩
              case measure => simp [intOf]; omega
            · have hf2 : L.list.length < 256 := by have := HS.out.led.row.1; omega
              have nb2 : (n : Int) + 1 ≤ 256 := by have := HNL.out; omega
              go_wp2_with fail
              refine (again_ok g v L sp wr HS.out.led hl hf2).mono ?_
              intro e w3 d
              obtain ⟨rfl, v3, S3, _, _⟩ := HS.out.does d
              have HS3 := Lib.hid S3
              clear S3 d
              have P := Lib.hid (pending_eq HS3.out ((n : Int) + 1) (by have := HNL.out; simp; omega))
              have AF := Lib.hid (After.mk HS3.out (n := (n + 1)) (by have := HNL.out; simp; omega))
              go_wp2_with fail
              refine P.out.mono ?_
              rintro e w9 ⟨rfl, rfl⟩
              go_wp2
              go_roundw
              case rel => exact ⟨k + 1, (n + 1), by omega, by omega, by go_num, by first | rfl | go_num | (congr 1; omega), AF⟩
              case measure => simp [intOf]; omega
        · by_cases hl : len sp = 0
          · go_wp2_with fail
            refine (dup_zero g sp wr hl).mono ?_
            rintro e w3 ⟨rfl, b3⟩
            have HS3 := Lib.hid (HS.out.below b3)
            clear b3
            have P := Lib.hid (pending_eq HS3.out (n) (by rw [← HNL.out]))
            have AF := Lib.hid (After.mk HS3.out (n := n) (HNL.out))
            go_wp2_with fail
            refine P.out.mono ?_
            rintro e w9 ⟨rfl, rfl⟩
            go_wp2
            go_roundw
            case rel => exact ⟨k + 1, n, by omega, by omega, by go_num, by first | rfl | go_num | (congr 1; omega), AF⟩
            case measure => simp [intOf]; omega
          · obtain ⟨r, hr⟩ : ∃ r, any sp L.list = r := ⟨_, rfl⟩
            have D := Lib.hid (dup_calls g v L sp wr HS.out.led hl)
            rw [hr] at D
            cases r with
            | true =>
              have hgl := goes_len sp L.list hr
              have HGL := Lib.hid hgl
              have hpos : 1 ≤ n := by have := HNL.out; omega
              clear hgl hr
              go_wp2_with fail
              refine (D.out).mono ?_
              intro e w3 d
              obtain ⟨rfl, v3, S3, _, _⟩ := HS.out.does d
              have HS3 := Lib.hid S3
              clear S3 d
              have P := Lib.hid (pending_eq HS3.out ((n : Int) - 1) (by have h1 := HNL.out; have h2 := HGL.out; simp only; omega))
              have AF := Lib.hid (After.mk HS3.out (n := (n - 1)) (by have h1 := HNL.out; have h2 := HGL.out; simp only; omega))
              go_wp2_with fail
              refine P.out.mono ?_
              rintro e w9 ⟨rfl, rfl⟩
              go_wp2
              go_roundw
              case rel => exact ⟨k + 1, (n - 1), by omega, by omega, by go_num, by first | rfl | go_num | (congr 1; omega), AF⟩
              case measure => simp [intOf]; omega
            | false =>
              have hgl := goes_same sp L.list hr
              rw [hgl] at D
              clear hgl hr
              go_wp2_with fail
              refine (D.out).mono ?_
              intro e w3 d
              obtain ⟨rfl, v3, S3, _, _⟩ := HS.out.does d
              have HS3 := Lib.hid S3
              clear S3 d
              have P := Lib.hid (pending_eq HS3.out (n) (by rw [← HNL.out]))
              have AF := Lib.hid (After.mk HS3.out (n := n) (HNL.out))
              go_wp2_with fail
              refine P.out.mono ?_
              rintro e w9 ⟨rfl, rfl⟩
              go_wp2
              go_roundw
              case rel => exact ⟨k + 1, n, by omega, by omega, by go_num, by first | rfl | go_num | (congr 1; omega), AF⟩
              case measure => simp [intOf]; omega
        · by_cases hu : L.list ≠ [] ∨ L.spilt = true
          · go_wp2_with fail
            refine (undo_stay g v L wr HS.out.led hu).mono ?_
            rintro e w3 ⟨rfl, rfl⟩
            unfold Three
            have P := Lib.hid (pending_eq HS.out (n) (by rw [← HNL.out]))
            have AF := Lib.hid (After.mk HS.out (n := n) (HNL.out))
            go_wp2_with fail
            refine P.out.mono ?_
            rintro e w9 ⟨rfl, rfl⟩
            go_wp2
            go_roundw
            case rel => exact ⟨k + 1, n, by omega, by omega, by go_num, by first | rfl | go_num | (congr 1; omega), AF⟩
            case measure => simp [intOf]; omega
          · have hu1 : L.list = [] := Classical.byContradiction fun h => hu (.inl h)
            have hu2 : L.spilt = false := Bool.eq_false_iff.2 fun h => hu (.inr h)
            have hn0 : n = 0 := by rw [HNL.out, hu1]; rfl
            subst hn0
            by_cases ho : L.opn = true
            · have F := Lib.hid (undo_go g v L wr HS.out.led hu1 hu2 (Q := Does wr g v (Three L.cwnd L.thresh true) ⟨false, L.cwnd, L.thresh, L.list, L.spilt⟩) ((force_yes g v L wr HS.out.led ho).mono (fun e w3 d => ⟨L.cwnd, L.thresh, true, d.1, d⟩)))
              clear hu hu1 hu2 ho
              unfold Three at F
              go_wp2_with fail
              refine (F.out).mono ?_
              intro e w3 d
              obtain ⟨rfl, v3, S3, _, _⟩ := HS.out.does d
              have HS3 := Lib.hid S3
              clear S3 d
              have P := Lib.hid (pending_eq HS3.out (0) (by rw [← HNL.out]; rfl))
              have AF := Lib.hid (After.mk HS3.out (n := 0) (HNL.out))
              go_wp2_with fail
              refine P.out.mono ?_
              rintro e w9 ⟨rfl, rfl⟩
              go_wp2
              go_roundw
              case rel => exact ⟨k + 1, 0, by omega, by omega, by go_num, by first | rfl | go_num | (congr 1; omega), AF⟩
              case measure => simp [intOf]; omega
            · have ho2 : L.opn = false := by simpa using ho
              have F := Lib.hid (undo_go g v L wr HS.out.led hu1 hu2 (Q := Same wr (Three 0 0 false)) ((force_no g v L wr HS.out.led ho2).mono (fun e w3 d => ⟨0, 0, false, d.1, d⟩)))
              clear hu hu1 hu2 ho ho2
              go_wp2_with fail
              refine (F.out).mono ?_
              rintro e w3 ⟨rfl, rfl⟩
              unfold Three
              have P := Lib.hid (pending_eq HS.out (0) (by rw [← HNL.out]; rfl))
              have AF := Lib.hid (After.mk HS.out (n := 0) (HNL.out))
              go_wp2_with fail
              refine P.out.mono ?_
              rintro e w9 ⟨rfl, rfl⟩
              go_wp2
              go_roundw
              case rel => exact ⟨k + 1, 0, by omega, by omega, by go_num, by first | rfl | go_num | (congr 1; omega), AF⟩
              case measure => simp [intOf]; omega
        · by_cases hu : L.list ≠ [] ∨ L.spilt = true
          · go_wp2_with fail
            refine (undo_stay g v L wr HS.out.led hu).mono ?_
            rintro e w3 ⟨rfl, rfl⟩
            unfold Three
            have P := Lib.hid (pending_eq HS.out (n) (by rw [← HNL.out]))
            have AF := Lib.hid (After.mk HS.out (n := n) (HNL.out))
            go_wp2_with fail
            refine P.out.mono ?_
            rintro e w9 ⟨rfl, rfl⟩
            go_wp2
            go_roundw
            case rel => exact ⟨k + 1, n, by omega, by omega, by go_num, by first | rfl | go_num | (congr 1; omega), AF⟩
            case measure => simp [intOf]; omega
          · have hu1 : L.list = [] := Classical.byContradiction fun h => hu (.inl h)
            have hu2 : L.spilt = false := Bool.eq_false_iff.2 fun h => hu (.inr h)
            have hn0 : n = 0 := by rw [HNL.out, hu1]; rfl
            subst hn0
            by_cases ho : L.opn = true
            · have F := Lib.hid (undo_go g v L wr HS.out.led hu1 hu2 (Q := Does wr g v (Three L.cwnd L.thresh true) ⟨false, L.cwnd, L.thresh, L.list, L.spilt⟩) ((force_yes g v L wr HS.out.led ho).mono (fun e w3 d => ⟨L.cwnd, L.thresh, true, d.1, d⟩)))
              clear hu hu1 hu2 ho
              unfold Three at F
              go_wp2_with fail
              refine (F.out).mono ?_
              intro e w3 d
              obtain ⟨rfl, v3, S3, _, _⟩ := HS.out.does d
              have HS3 := Lib.hid S3
              clear S3 d
              have P := Lib.hid (pending_eq HS3.out (0) (by rw [← HNL.out]; rfl))
              have AF := Lib.hid (After.mk HS3.out (n := 0) (HNL.out))
              go_wp2_with fail
              refine P.out.mono ?_
              rintro e w9 ⟨rfl, rfl⟩
              go_wp2
              go_roundw
              case rel => exact ⟨k + 1, 0, by omega, by omega, by go_num, by first | rfl | go_num | (congr 1; omega), AF⟩
              case measure => simp [intOf]; omega
            · have ho2 : L.opn = false := by simpa using ho
              have F := Lib.hid (undo_go g v L wr HS.out.led hu1 hu2 (Q := Same wr (Three 0 0 false)) ((force_no g v L wr HS.out.led ho2).mono (fun e w3 d => ⟨0, 0, false, d.1, d⟩)))
              clear hu hu1 hu2 ho ho2
              go_wp2_with fail
              refine (F.out).mono ?_
              rintro e w3 ⟨rfl, rfl⟩
              unfold Three
              have P := Lib.hid (pending_eq HS.out (0) (by rw [← HNL.out]; rfl))
              have AF := Lib.hid (After.mk HS.out (n := 0) (HNL.out))
              go_wp2_with fail
              refine P.out.mono ?_
              rintro e w9 ⟨rfl, rfl⟩
              go_wp2
              go_roundw
              case rel => exact ⟨k + 1, 0, by omega, by omega, by go_num, by first | rfl | go_num | (congr 1; omega), AF⟩
              case measure => simp [intOf]; omega
      · have h600 : ¬ (k : Int) < 600 := by omega
        have kk1 : (k : Int) < (ops.length : Int) := by omega
        obtain ⟨_, v, L, _, hS⟩ := hA.out
        have HS := Lib.hid hS
        clear hS hA
        go_wp2_with fail
        refine (known_calls _).mono ?_
        rintro e w3 ⟨rfl, b3⟩
        go_wp2
        go_ret
        exact ⟨rfl, below_then HS.out.bel HS.out.bel.size b3⟩
    · have h600 : ¬ (k : Int) < (ops.length : Int) := by omega
      obtain ⟨_, v, L, _, hS⟩ := hA.out
      have HS := Lib.hid hS
      clear hS hA
      go_wp2_with fail
      refine (known_calls _).mono ?_
      rintro e w3 ⟨rfl, b3⟩
      go_wp2
      go_ret
      exact ⟨rfl, below_then HS.out.bel HS.out.bel.size b3⟩
end Go.Proofs.Ytaokiocpfpdmkaa.Led
