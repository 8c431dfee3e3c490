/- Chapter 10 (dup): what the document says of an acknowledgement: its Look. -/
import Derived.Test.YtaokiocpfpdmkaaLookRef
set_option linter.unusedSimpArgs false
set_option linter.unusedVariables false
attribute [local go_sem ↓] Go.wp_at_zero Go.wp_at_succ
namespace Go.Proofs.Ytaokiocpfpdmkaa.Dups
open Go.BigFrame Go.RowKit Go.OpenShut Go.Proofs.Ytaokiocpfpdmkaa.Aid Go.Proofs.Ytaokiocpfpdmkaa.Spans
open Led (encS encS_len encS_one info26 row_alloc row_drew src_one)
theorem rlook_err (una nxt num : Int) (A : Option Addr) (c : Nat) (l : List Block) (w : World) (h : una < 0 ∨ 4611686018427387904 < nxt ∨ nxt < una ∨ 65536 < nxt - una) :
    Calls Try.prog 16 #[.int .i64 una, .int .i64 nxt, .int .u32 num, .slice A l.length c] w (Tells w (zero, 3)) := by
  have cases : una < 0 ∨ (¬ una < 0 ∧ 4611686018427387904 < nxt) ∨ (¬ una < 0 ∧ ¬ 4611686018427387904 < nxt ∧ nxt < una) ∨ (¬ una < 0 ∧ ¬ 4611686018427387904 < nxt ∧ ¬ nxt < una ∧ 65536 < nxt - una) := by omega
  clear h
  rcases cases with h1 | ⟨h1, h2⟩ | ⟨h1, h2, h3⟩ | ⟨h1, h2, h3, h4⟩
  all_goals
    go_enter Try.func16, Try.ntmps16
    go_wp2
    refine bodyPost_ret (v := .tuple #[.agg (cellsT zero (.slice Option.none 0 0)), .int .i64 3]) (by simp [results, Try.results16, go_sem, cellsT, zero]) rfl ⟨Option.none, 0, 0, rfl, .inl ⟨rfl, rfl⟩, fun b e => by simp [Value.ownBlock] at e, ?_⟩
    exact (Below.refl _ w).alloc (Nat.le_refl _) _
theorem rlook_old (una nxt num : Int) (A : Option Addr) (c : Nat) (l : List Block) (w : World) (u0 : 0 ≤ num) (u1 : num < 4294967296) (h : ¬ (una < 0 ∨ 4611686018427387904 < nxt ∨ nxt < una ∨ 65536 < nxt - una)) (h2 : unw una num < 0 ∨ 65536 < una - unw una num) :
    Calls Try.prog 16 #[.int .i64 una, .int .i64 nxt, .int .u32 num, .slice A l.length c] w (Tells w (zero, 11)) := by
  have h1 : 0 ≤ una ∧ nxt ≤ 4611686018427387904 ∧ una ≤ nxt ∧ nxt - una ≤ 65536 := by omega
  obtain ⟨k1, k2, k3, k4⟩ := h1
  clear h
  have U := Lib.hid (fun w => unw_ref una num w u0 u1)
  have hb := unw_bd una num
  generalize unw una num = u at *
  have cases : u = -1 ∨ (0 ≤ u ∧ u ≤ 4611686018427387904 ∧ 65536 < una - u) := by omega
  clear hb h2
  rcases cases with rfl | ⟨h1, h2, h3⟩
  all_goals
    go_enter Try.func16, Try.ntmps16
    go_wp2_with fail
    refine (U.out _).mono ?_
    rintro e w1 ⟨rfl, rfl⟩
    go_wp2
    refine bodyPost_ret (v := .tuple #[.agg (cellsT zero (.slice Option.none 0 0)), .int .i64 11]) (by simp [results, Try.results16, go_sem, cellsT, zero]) rfl ⟨Option.none, 0, 0, rfl, .inl ⟨rfl, rfl⟩, fun b e => by simp [Value.ownBlock] at e, ?_⟩
    exact (Below.refl _ w).alloc (Nat.le_refl _) _
theorem rlook_ahead (una nxt num : Int) (A : Option Addr) (c : Nat) (l : List Block) (w : World) (u0 : 0 ≤ num) (u1 : num < 4294967296) (h : ¬ (una < 0 ∨ 4611686018427387904 < nxt ∨ nxt < una ∨ 65536 < nxt - una)) (h2 : ¬ (unw una num < 0 ∨ 65536 < una - unw una num)) (h3 : nxt < unw una num) :
    Calls Try.prog 16 #[.int .i64 una, .int .i64 nxt, .int .u32 num, .slice A l.length c] w (Tells w (zero, 12)) := by
  have h1 : 0 ≤ una ∧ nxt ≤ 4611686018427387904 ∧ una ≤ nxt ∧ nxt - una ≤ 65536 := by omega
  obtain ⟨k1, k2, k3, k4⟩ := h1
  clear h
  have U := Lib.hid (fun w => unw_ref una num w u0 u1)
  have hb := unw_bd una num
  generalize unw una num = u at *
  have h1 : 0 ≤ u := by omega
  have h5 : u ≤ 4611686018427387904 := by omega
  have h4 : una - u ≤ 65536 := by omega
  clear hb h2
  go_enter Try.func16, Try.ntmps16
  go_wp2_with fail
  refine (U.out _).mono ?_
  rintro e w1 ⟨rfl, rfl⟩
  go_wp2
  refine bodyPost_ret (v := .tuple #[.agg (cellsT zero (.slice Option.none 0 0)), .int .i64 12]) (by simp [results, Try.results16, go_sem, cellsT, zero]) rfl ⟨Option.none, 0, 0, rfl, .inl ⟨rfl, rfl⟩, fun b e => by simp [Value.ownBlock] at e, ?_⟩
  exact (Below.refl _ w).alloc (Nat.le_refl _) _
/-- The blocks that have been gone through. -/
def proc (it : Bool) (l : List Block) (k : Nat) : List Block := if it = true then (l.take k).tail else l.take k
theorem proc_snoc (it : Bool) (l : List Block) (k : Nat) (b : Block) (hb : l[k]? = some b) (h : it = false ∨ 0 < k) : proc it l (k + 1) = proc it l k ++ [b] := by
  have hk := (List.getElem?_eq_some_iff.1 hb)
  obtain ⟨hlt, he⟩ := hk
  have e : l.take (k + 1) = l.take k ++ [b] := by rw [List.take_succ_eq_append_getElem hlt, he]
  unfold proc
  rw [e]
  cases it with
  | false => rfl
  | true =>
    have h0 : 0 < k := h.resolve_left (by decide)
    cases l with
    | nil => simp at hlt
    | cons x r =>
      cases k with
      | zero => omega
      | succ k => simp
theorem proc_len (it : Bool) (l : List Block) (k : Nat) : (proc it l k).length ≤ k := by
  unfold proc
  split
  · rw [List.length_tail, List.length_take]; omega
  · rw [List.length_take]; omega
theorem len_tsp (ack nxt : Int) (l : List Block) : decide (0 < len (tsp ack nxt l)) = isT ack nxt l := by
  cases h : isT ack nxt l with
  | false =>
    rw [tsp_zero h]
    decide
  | true =>
    cases l with
    | nil => simp [isT] at h
    | cons x r =>
      rw [tsp_some h]
      have hF : isF ack x = true := by
        simp only [isT, Bool.and_eq_true] at h
        exact h.1
      obtain ⟨h1, h2, h3, _, _⟩ := isF_fsp hF
      rw [len_of h1 h2 h3]
      exact decide_eq_true (by omega)
theorem rout_new (w w1 : World) (a : Int) (s : Span) (hb : Below (w.alloc (.cells (cellsT zero (.slice Option.none 0 0)) 33)).heap.size (w.alloc (.cells (cellsT zero (.slice Option.none 0 0)) 33)) w1) : Out 33 w (w1.alloc (.cells (cellsT ⟨a, false, s, [], 0⟩ (.slice Option.none 0 0)) 33)) w.heap.size w1.heap.size ⟨a, false, s, [], 0⟩ (.slice Option.none 0 0) := by
  have h1 : Blk w1 w.heap.size 33 _ := (Blk.new w 33 (cellsT zero (.slice Option.none 0 0))).below hb (by simp)
  have h2 := Blk.new w1 33 (cellsT ⟨a, false, s, [], 0⟩ (.slice Option.none 0 0))
  have h3 := h1.lt
  exact ⟨h1.alloc _, h2, .inl ⟨rfl, rfl⟩, fun b e => by simp [Value.ownBlock] at e, bn_alloc (below1 hb) _, Nat.le_refl _, by omega, by omega⟩
theorem Out.snoc {ty : TypeId} {w W W' : World} {g h : Nat} {a : Int} {i : Bool} {d s : Span} {sk : List Span} {bd : Nat} {sv sv' : Value} (H : Out ty w W g h ⟨a, i, d, sk, bd⟩ sv) (hr : RowOf 26 2 encS W' sv' (sk ++ [s])) (ha : App W W' sv sv') :
    Out ty w (W'.setCell ⟨h, 4, Option.none⟩ sv') g h ⟨a, i, d, sk ++ [s], bd⟩ sv' := H.app (t' := ⟨a, i, d, sk ++ [s], bd⟩) hr ha (by simp [cellsT])
set_option maxRecDepth 100000 in
set_option maxHeartbeats 4000000 in
theorem rlook_ok (una nxt num : Int) (A : Option Addr) (c : Nat) (l : List Block) (w : World) (u0 : 0 ≤ num) (u1 : num < 4294967296) (h : ¬ (una < 0 ∨ 4611686018427387904 < nxt ∨ nxt < una ∨ 65536 < nxt - una)) (h2 : ¬ (unw una num < 0 ∨ 65536 < una - unw una num)) (h3 : ¬ nxt < unw una num)
    (hn : l.length ≤ maxLen) (hn16 : l.length * 16 ≤ 140737488351232) (hcap : l.length ≤ c) (hw : ∀ b ∈ l, WfK b) (hr : Reps w A 2 encK l) :
    Calls Try.prog 16 #[.int .i64 una, .int .i64 nxt, .int .u32 num, .slice A l.length c] w (Tells w (tells (unw una num) nxt l, 0)) := by
  have h1 : 0 ≤ una ∧ nxt ≤ 4611686018427387904 ∧ una ≤ nxt ∧ nxt - una ≤ 65536 := by omega
  obtain ⟨k1, k2, k3, k4⟩ := h1
  clear h
  have U := Lib.hid (fun w => unw_ref una num w u0 u1)
  have hb := unw_bd una num
  generalize unw una num = u at *
  have h1 : 0 ≤ u := by omega
  have h5 : u ≤ nxt := by omega
  have h4 : una - u ≤ 65536 := by omega
  clear hb h2 h3
  have T := Lib.hid (fun w hr => rdup_calls u nxt l A c w hn hw hr)
  unfold Agg2 at T
  have L := Lib.hid (len_ref (tsp u nxt l))
  have LT := Lib.hid (len_tsp u nxt l)
  have R := Lib.hid hr
  have HW := Lib.hid hw
  have PE : Hid (proc (isT u nxt l) l l.length = rest u nxt l) := Lib.hid (by unfold proc rest; rw [List.take_of_length_le (Nat.le_refl _)])
  have FIN : Hid (tells u nxt l = ⟨u, isT u nxt l, tsp u nxt l, sacksOf u nxt (rest u nxt l), badOf u nxt (rest u nxt l)⟩) := Lib.hid rfl
  unfold maxLen at hn
  clear hr hw
  generalize isT u nxt l = it at *
  generalize tsp u nxt l = sp at *
  generalize len sp = z at *
  go_enter Try.func16, Try.ntmps16
  go_wp2_with fail
  refine (U.out _).mono ?_
  rintro e w1 ⟨rfl, rfl⟩
  go_wp2_with fail
  refine (T.out _ (R.out.below ((Below.refl _ w).alloc (Nat.le_refl _) _))).mono ?_
  rintro e w1 ⟨rfl, b1⟩
  have O1 := Lib.hid (rout_new w w1 u sp b1)
  clear b1
  have c2 : (w1.alloc (.cells (cellsT ⟨u, false, sp, [], 0⟩ (.slice Option.none 0 0)) 33)).cell? ⟨w1.heap.size, 2, Option.none⟩ = some (.int .i64 sp.lo) := O1.out.out.cell 2
  have c3 : (w1.alloc (.cells (cellsT ⟨u, false, sp, [], 0⟩ (.slice Option.none 0 0)) 33)).cell? ⟨w1.heap.size, 3, Option.none⟩ = some (.int .i64 sp.hi) := O1.out.out.cell 3
  go_wp2_with fail
  clear c2 c3
  refine (L.out _).mono ?_
  rintro e w2 ⟨rfl, b2⟩
  have O2 := Lib.hid (O1.out.below b2)
  clear b2
  generalize w1.heap.size = g at *
  have x1 : w2.cell? ⟨g, 1, Option.none⟩ = some (.bool false) := O2.out.out.cell 1
  have xf := O2.out.out.frozen
  have O3 := Lib.hid (O2.out.put (t' := ⟨u, it, sp, [], 0⟩) 1 (.bool it) (by simp [cellsT]) rfl)
  go_upto_region 10 with fail
  rw [LT.out]
  generalize w2.setCell ⟨g, 1, Option.none⟩ (.bool it) = W at *
  clear x1 xf O2 O1 T L U
  go_wp2
  go_loopw [12] (fun i wr => ∃ (k : Nat) (sv : Value), k ≤ l.length ∧ i = .int .i64 k ∧ Hid (Out 33 w wr w.heap.size g ⟨u, it, sp, sacksOf u nxt (proc it l k), badOf u nxt (proc it l k)⟩ sv)) (fun i _ => l.length - (intOf i).toNat)
  case atStart => exact ⟨0, _, by omega, rfl, Lib.hid (by
    have e : proc it l 0 = [] := by unfold proc; split <;> simp
    rw [e]
    exact O3.out)⟩
  case round =>
    obtain ⟨k, sv, hk, rfl, HO⟩ := hrel
    clear O3
    by_cases hlt : k < l.length
    · have x1 : wr.cell? ⟨g, 1, Option.none⟩ = some (.bool it) := HO.out.out.cell 1
      by_cases h0 : k = 0 ∧ it = true
      · obtain ⟨rfl, rfl⟩ := h0
        have e0 : proc true l 0 = [] := rfl
        have e1 : proc true l 1 = [] := by
          cases l with
          | nil => rfl
          | cons x r => rfl
        rw [e0] at HO
        clear hk
        go_wp2
        go_roundw
        case rel => exact ⟨1, sv, by omega, by go_num, Lib.hid (by rw [e1]; exact HO.out)⟩
        case measure => simp [intOf]; omega
      · have h0' : it = false ∨ 0 < k := by
          cases it with
          | false => exact .inl rfl
          | true => exact .inr (by
              have : k ≠ 0 := fun e => h0 ⟨e, rfl⟩
              omega)
        obtain ⟨b, hb⟩ : ∃ b, l[k]? = some b := ⟨_, List.getElem?_eq_getElem hlt⟩
        obtain ⟨ad, rfl, had, hc⟩ := (R.out.below HO.out.bel) k b hb
        have c0 : wr.cell? (ad.add (k * 2)) = some (.int .u32 b.l) := hc 0 _ rfl
        have c1 : wr.cell? ⟨(ad.add (k * 2)).block, (ad.add (k * 2)).off + 1, Option.none⟩ = some (.int .u32 b.r) := (add_next ad (k * 2) 1 (by omega)) ▸ hc 1 _ rfl
        have hpr := proc_snoc it l k b hb h0'
        have K := Lib.hid (fun W => formed_ref u b W (HW.out b (List.mem_of_getElem? hb)))
        unfold Agg2 at K
        have h6 := sacks_snoc u nxt (proc it l k) b
        have h7 := bad_snoc u nxt (proc it l k) b
        rw [← hpr] at h6 h7
        have h8 := sacks_len u nxt (proc it l k)
        have h9 := proc_len it l k
        have LS := Lib.hid (len_ref (rsp u b))
        have LR := Lib.hid (len_rsp u b)
        have hgd : good u nxt b = (isF u b && (decide (u < (fsp u b).lo) && decide ((fsp u b).hi ≤ nxt))) := rfl
        have HGD := Lib.hid hgd
        have HS6 := Lib.hid h6
        have HS7 := Lib.hid h7
        generalize sacksOf u nxt (proc it l k) = sk at *
        generalize badOf u nxt (proc it l k) = bd at *
        have bdl : (bd : Int) ≤ 9223372036854775806 := by omega
        have HSK : Hid (sk.length + bd ≤ k ∧ (k + 1) * 16 ≤ 140737488351232) := Lib.hid (by omega)
        have hkz : (it = false ∧ ((k : Int) == 0) = true ∧ decide ((k : Int) = 0) = true) ∨ (((k : Int) == 0) = false ∧ decide ((k : Int) = 0) = false) := by
          by_cases hk0 : k = 0
          · exact .inl ⟨h0'.resolve_right (by omega), by simp; omega, by simp; omega⟩
          · exact .inr ⟨by simp; omega, by simp; omega⟩
        clear hc hb hpr h6 h7 h8 h9 hgd h0 h0'
        rcases hkz with ⟨rfl, hz1, hz2⟩ | ⟨hz1, hz2⟩
        all_goals
          go_wp2_with fail
          refine (K.out _).mono ?_
          rintro e w2 ⟨rfl, b2⟩
          have O3 := HO.out.below b2
          have O4 := O3.below ((Below.refl _ w2).alloc (Nat.le_refl _) (.cells #[.int .i64 (rsp u b).lo, .int .i64 (rsp u b).hi] 26))
          have HO4 := Lib.hid O4
          have HT4 := Lib.hid (at2_new (W := w2) (s := rsp u b) rfl)
          clear O3 O4 c0 c1 b2
          go_wp2_with fail
          refine (LS.out _).mono ?_
          rintro e w3 ⟨rfl, b3⟩
          have HO5 := Lib.hid (HO4.out.below b3)
          obtain ⟨s0, s1⟩ := at2_call HT4.out b3
          generalize w2.heap.size = gs at *
          have x4 : w3.cell? ⟨g, 4, Option.none⟩ = some sv := HO5.out.out.cell 4
          have x5 : w3.cell? ⟨g, 5, Option.none⟩ = some (.int .i64 bd) := HO5.out.out.cell 5
          have xf := HO5.out.out.frozen
          clear b3
          by_cases hgd : good u nxt b = true
          · have hgd2 := hgd
            rw [HGD.out] at hgd2
            simp only [Bool.and_eq_true, decide_eq_true_eq] at hgd2
            obtain ⟨hF, g1, g2⟩ := hgd2
            have hlr : 0 < len (rsp u b) ∧ rsp u b = fsp u b := by
              rcases LR.out with ⟨_, h1, h2⟩ | ⟨h1, _, _⟩
              · exact ⟨h1, h2⟩
              · rw [hF] at h1; cases h1
            obtain ⟨hl1, hl2⟩ := hlr
            rw [if_pos hgd] at HS6 HS7
            rw [← hl2] at g1 g2 HS6
            obtain ⟨svA, svn, svc, rfl⟩ := HO5.out.row.some_slice
            obtain ⟨i0, hi, hz0, hz1, hz2⟩ := info_parts info26
            clear hgd HGD hF hl2 LR LS
            generalize len (rsp u b) = zz at *
            generalize rsp u b = s at *
            go_wp2_with (at_builtin; refine wpList_append_row (by rfl) _ _ 27 (by rfl) i0 _ 16 Try.underlying27 hi hz0 hz1 hz2 (by decide) (by decide) encS_len encS_one (.slice svA svn svc) sk (by rfl) (row_alloc HO5.out.row _) _ 1 _ [s] rfl (by rfl) (src_one (heap_alloc_new _ _)) ?k5 ?k6 ?k7)
            case k5 => have := HSK.out; unfold maxLen; omega
            case k6 => have := HSK.out; omega
            case k7 =>
              intro v5 w5 hr5 ha5
              obtain ⟨A5, n5, c5, rfl⟩ := hr5.some_slice
              have O5 := Lib.hid ((HO5.out.below ((Below.refl _ w3).alloc (Nat.le_refl _) _)).snoc hr5 ha5)
              have X5 : Blk w5 g 33 _ := (ha5.block g (by have := HO5.out.out.lt; simp; omega) (fun e => (HO5.out.own _ e).2.2 rfl)).trans (HO5.out.out.alloc _)
              have q4 : w5.cell? ⟨g, 4, Option.none⟩ = some (.slice svA svn svc) := X5.cell 4
              have q5 := X5.frozen
              clear X5 hr5 ha5
              go_wp2
              go_roundw
              case rel => exact ⟨k + 1, _, by omega, by go_num, Lib.hid (by rw [HS6.out, HS7.out]; exact O5.out)⟩
              case measure => simp [intOf]; omega
          · have hgf := hgd
            rw [HGD.out] at hgd
            have cases : len (rsp u b) ≤ 0 ∨ (0 < len (rsp u b) ∧ (rsp u b).lo ≤ u) ∨ (0 < len (rsp u b) ∧ ¬ (rsp u b).lo ≤ u ∧ nxt < (rsp u b).hi) := by
              rcases LR.out with ⟨h1, h2, h3⟩ | ⟨h1, h2, h3⟩
              · rw [h1, ← h3] at hgd
                simp only [Bool.true_and, Bool.and_eq_true, decide_eq_true_eq] at hgd
                omega
              · omega
            rw [if_neg hgf] at HS6 HS7
            clear hgd hgf HGD LR LS
            generalize len (rsp u b) = zz at *
            generalize rsp u b = s at *
            rcases cases with g0 | ⟨g0, g1⟩ | ⟨g0, g1, g2⟩
            all_goals
              go_wp2
              go_roundw
              case rel => exact ⟨k + 1, sv, by omega, by go_num, Lib.hid (by rw [HS6.out, HS7.out]; exact HO5.out.put 5 _ (by simp [cellsT]) rfl)⟩
              case measure => simp [intOf]; omega
    · obtain rfl : k = l.length := by omega
      rw [PE.out] at HO
      obtain ⟨svA, svn, svc, rfl⟩ := HO.out.row.some_slice
      have FF := FIN.out
      generalize sacksOf u nxt (rest u nxt l) = sk at *
      generalize badOf u nxt (rest u nxt l) = bd at *
      generalize tells u nxt l = TL at *
      subst FF
      have x0 : wr.cell? ⟨g, 0, Option.none⟩ = some (.int .i64 u) := HO.out.out.cell 0
      have x1 : wr.cell? ⟨g, 1, Option.none⟩ = some (.bool it) := HO.out.out.cell 1
      have x2 : wr.cell? ⟨g, 2, Option.none⟩ = some (.int .i64 sp.lo) := HO.out.out.cell 2
      have x3 : wr.cell? ⟨g, 3, Option.none⟩ = some (.int .i64 sp.hi) := HO.out.out.cell 3
      have x4 : wr.cell? ⟨g, 4, Option.none⟩ = some (.slice svA svn svc) := HO.out.out.cell 4
      have x5 : wr.cell? ⟨g, 5, Option.none⟩ = some (.int .i64 bd) := HO.out.out.cell 5
      have y0 : wr.cell? ⟨w.heap.size, 0, Option.none⟩ = some (.int .i64 0) := HO.out.res.cell 0
      have y1 : wr.cell? ⟨w.heap.size, 1, Option.none⟩ = some (.bool false) := HO.out.res.cell 1
      have y2 : wr.cell? ⟨w.heap.size, 2, Option.none⟩ = some (.int .i64 0) := HO.out.res.cell 2
      have y3 : wr.cell? ⟨w.heap.size, 3, Option.none⟩ = some (.int .i64 0) := HO.out.res.cell 3
      have y4 : wr.cell? ⟨w.heap.size, 4, Option.none⟩ = some (.slice Option.none 0 0) := HO.out.res.cell 4
      have y5 : wr.cell? ⟨w.heap.size, 5, Option.none⟩ = some (.int .i64 0) := HO.out.res.cell 5
      have yf := HO.out.res.frozen
      have DN := HO.out.done
      have gh := HO.out.gh
      clear hlt
      go_wp2
      revert DN
      generalize (((((wr.setCell ⟨w.heap.size, 0, Option.none⟩ (.int .i64 u)).setCell ⟨w.heap.size, 1, Option.none⟩ (.bool it)).setCell ⟨w.heap.size, 2, Option.none⟩ (.int .i64 sp.lo)).setCell ⟨w.heap.size, 3, Option.none⟩ (.int .i64 sp.hi)).setCell ⟨w.heap.size, 4, Option.none⟩ (.slice svA svn svc)).setCell ⟨w.heap.size, 5, Option.none⟩ (.int .i64 bd) = W'
      rintro ⟨F1, F2, F3⟩
      have z0 : W'.cell? ⟨w.heap.size, 0, Option.none⟩ = some (.int .i64 u) := F1.cell 0
      have z1 : W'.cell? ⟨w.heap.size, 1, Option.none⟩ = some (.bool it) := F1.cell 1
      have z2 : W'.cell? ⟨w.heap.size, 2, Option.none⟩ = some (.int .i64 sp.lo) := F1.cell 2
      have z3 : W'.cell? ⟨w.heap.size, 3, Option.none⟩ = some (.int .i64 sp.hi) := F1.cell 3
      have z4 : W'.cell? ⟨w.heap.size, 4, Option.none⟩ = some (.slice svA svn svc) := F1.cell 4
      have z5 : W'.cell? ⟨w.heap.size, 5, Option.none⟩ = some (.int .i64 bd) := F1.cell 5
      exact bodyPost_ret (v := .tuple #[.agg (cellsT ⟨u, it, sp, sk, bd⟩ (.slice svA svn svc)), .int .i64 0]) (by simp [results, Try.results16, go_sem, cellsT, z0, z1, z2, z3, z4, z5]) rfl ⟨svA, svn, svc, rfl, F2, fun b e => (HO.out.own b e).1, F3⟩
theorem rlook_calls (una nxt num : Int) (A : Option Addr) (c : Nat) (l : List Block) (w : World) (u0 : 0 ≤ num) (u1 : num < 4294967296) (hn : l.length ≤ maxLen) (hn16 : l.length * 16 ≤ 140737488351232) (hcap : l.length ≤ c) (hw : ∀ b ∈ l, WfK b) (hr : Reps w A 2 encK l) :
    Calls Try.prog 16 #[.int .i64 una, .int .i64 nxt, .int .u32 num, .slice A l.length c] w (Tells w (look una nxt num l)) := by
  unfold look
  by_cases h1 : una < 0 ∨ 4611686018427387904 < nxt ∨ nxt < una ∨ 65536 < nxt - una
  · rw [if_pos h1]
    exact rlook_err una nxt num A c l w h1
  · rw [if_neg h1]
    by_cases h2 : unw una num < 0 ∨ 65536 < una - unw una num
    · rw [if_pos h2]
      exact rlook_old una nxt num A c l w u0 u1 h1 h2
    · rw [if_neg h2]
      by_cases h3 : nxt < unw una num
      · rw [if_pos h3]
        exact rlook_ahead una nxt num A c l w u0 u1 h1 h2 h3
      · rw [if_neg h3]
        exact rlook_ok una nxt num A c l w u0 u1 h1 h2 h3 hn hn16 hcap hw hr
end Go.Proofs.Ytaokiocpfpdmkaa.Dups
