/- Chapter 3's functions (sum) and the document's own (ref03), each by what it computes. -/
import Derived.Test.YtmkinnkndjmpbaaSumWords
import Derived.WalkSpells
import Derived.WalkLawsBesides
import Derived.BigQuiet
import Derived.Deep.DeepCutAuto
namespace Go.Proofs.Ytmkinnkndjmpbaa.Sum
open Go.RowKit Go.Shelf Go.Proofs.Ytmkinnkndjmpbaa.Aid Go.Proofs.Ytmkinnkndjmpbaa.SumPlain
attribute [local go_sem] Oper.semAt_some
theorem and_most (n : Int) (h0 : 0 ≤ n) (h1 : n ≤ 131070) : bits .and .u32 n 65535 = n % 65536 := by
  obtain ⟨m, rfl⟩ := Int.eq_ofNat_of_zero_le h0
  have h := u32_and_nat m 65535 (by omega) (by omega)
  rw [show ((65535 : Nat) : Int) = 65535 from rfl, show (65535 : Nat) = 2 ^ 16 - 1 from rfl, Nat.and_two_pow_sub_one_eq_mod] at h
  rw [h]
  omega
theorem add_calls (a b : Int) (w : World) (ha : 0 ≤ a ∧ a ≤ 65535) (hb : 0 ≤ b ∧ b ≤ 65535) : Calls Try.prog 30 #[.int .u16 a, .int .u16 b] w fun e w' => e = .returned (.int .u16 (canon (a + b))) ∧ w = w' := by
  obtain ⟨a0, a1⟩ := ha
  obtain ⟨b0, b1⟩ := hb
  have hc := canon_word (a + b) (by omega) (by omega)
  have HC := Lib.hid hc
  have hand := and_most (a + b) (by omega) (by omega)
  clear hc
  go_enter Try.func30, Try.ntmps30
  go_wp2
  go_ret
  exact ⟨by rw [← HC.out]; rfl, rfl⟩
theorem words_in (F : Fence) (n : Nat) (h34 : F.fn 34) (hro : F.round = none) (a : Option Addr) (len cap : Nat) (w : World) :
    CallsIn F n Try.prog 34 #[.slice a len cap] w fun e w' => e = .returned (.func (.func 35) #[] #[.pointer (some ⟨w.heap.size, 0, none⟩)]) ∧ w' = w.alloc (.cells #[.slice a len cap] 38) := by
  refine callsIn_of_wp Try.func34 rfl h34 ?_ hro
  simp only [Try.ntmps34, List.size_toArray, List.length_cons, List.length_nil, Nat.reduceAdd, Nat.reduceSub, Array.replicate_succ, Array.replicate_zero, List.push_toArray, List.append_toArray, List.nil_append, List.cons_append]
  gi_wp2
  go_ret
  exact ⟨rfl, rfl⟩
theorem words_stops (F : Fence) (n : Nat) (h35 : F.fn 35) (hro : F.round = none) (hn : 1 ≤ n) (Bs : Nat) (A : Option Addr) (c : Nat) (rows : List Row) (hl : rows.length ≤ 140737488351300) (w0 w : World) (hL : Lists w0 A rows) (hw : Below w0.heap.size w0 w) (hBs : Bs < w.heap.size)
    (hc : w.cell? ⟨Bs, 0, none⟩ = some (.slice A rows.length c)) :
    SeqStopsK F n Try.prog 35 #[.pointer (some ⟨Bs, 0, none⟩)] (fun x : W16 => #[Value.int .u16 x.1]) (Below w0.heap.size) (fun ys => ys.map (·.1) = words (flatB rows)) (fun _ => True) ((flatB rows).length + 1) w := fun l J Jx W hW _ _ hY h0 => by
  have hc' := (hW.cell (p := ⟨Bs, 0, none⟩) hBs).trans hc
  refine (words1_in F n h35 hro hn l Bs A c rows hl w0 hL J Jx hY W (hw.trans (hW.mono hw.size)) hc' h0).mono ?_
  rintro e W' ⟨he, ⟨ys, h1, hj⟩ | ⟨pre, hj⟩⟩
  · exact ⟨he, .inl ⟨ys, h1, hj⟩⟩
  · exact ⟨he, .inr ⟨pre, trivial, hj⟩⟩
def upTo (pre : List W16) : Int := List.foldl (fun a b => canon (a + b)) 0 (pre.map (·.1))
theorem upTo_snoc (pre : List W16) (x : W16) : upTo (pre ++ [x]) = canon (upTo pre + x.1) := by simp [upTo, List.foldl_append]
theorem upTo_bd (pre : List W16) : 0 ≤ upTo pre ∧ upTo pre ≤ 65535 := by
  unfold upTo
  suffices H : ∀ (l : List Int) (a : Int), 0 ≤ a ∧ a ≤ 65535 → 0 ≤ List.foldl (fun a b => canon (a + b)) a l ∧ List.foldl (fun a b => canon (a + b)) a l ≤ 65535 from H _ _ ⟨by omega, by omega⟩
  intro l
  induction l with
  | nil => intro a h; exact h
  | cons x t ih => intro a h; rw [List.foldl_cons]; exact ih _ (canon_bd _)
theorem flat_bytes {w : World} {A : Option Addr} {rows : List Row} (h : Lists w A rows) : Bytes (flatB rows) := by
  intro y hy
  obtain ⟨q, hq, hy⟩ := List.mem_flatMap.1 hy
  exact (h.2 q hq).2.2 y hy
set_option maxRecDepth 100000 in
set_option maxHeartbeats 2000000 in
theorem of_calls (A : Option Addr) (c : Nat) (rows : List Row) (hl : rows.length ≤ 140737488351300) (w : World) (hL : Lists w A rows) :
    Calls Try.prog 27 #[.slice A rows.length c] w fun e w' => e = .returned (.int .u16 (sumOf (flatB rows))) ∧ Below w.heap.size w w' := by
  refine (callsIn_wide (n := 4)).1 ?_
  have hfb := flat_bytes hL
  have HF := Lib.hid hfb
  have HL := Lib.hid hL
  clear hfb hL
  refine callsIn_of_wp_marks Try.func27 rfl trivial ?_ rfl
  simp only [Try.ntmps27, List.size_toArray, List.length_cons, List.length_nil, Nat.reduceAdd, Nat.reduceSub, Array.replicate_succ, Array.replicate_zero, List.push_toArray, List.append_toArray, List.nil_append, List.cons_append]
  gi_wp2
  refine ⟨trivial, ?_⟩
  refine (words_in Fence.wide 3 trivial rfl _ _ _ _).mono ?_
  rintro e w' ⟨rfl, rfl⟩
  gi_wp2
  have hs0 : Blk ((w.alloc (.cells #[.int .u16 0] 39)).alloc (.cells #[.slice A rows.length c] 38)) w.heap.size 39 #[.int .u16 0] := (Blk.new w _ _).alloc _
  have hb0 : Blk ((w.alloc (.cells #[.int .u16 0] 39)).alloc (.cells #[.slice A rows.length c] 38)) (w.heap.size + 1) 38 #[.slice A rows.length c] := by
    have := Blk.new (w.alloc (.cells #[.int .u16 0] 39)) 38 #[.slice A rows.length c]
    simpa using this
  have hB0 : Below w.heap.size w ((w.alloc (.cells #[.int .u16 0] 39)).alloc (.cells #[.slice A rows.length c] 38)) := ((Below.refl _ w).alloc (Nat.le_refl _) _).alloc (by simp) _
  refine wpIn_rangeFunc_ownF rfl (by omega) (gf := 35) (lb := #[.pointer (some ⟨w.heap.size + 1, 0, none⟩)]) rfl trivial (enters_of Try.func35 (by kernel_rfl) rfl)
    (words_stops Fence.wide 3 trivial rfl (by omega) (w.heap.size + 1) A c rows hl w _ HL.out hB0 (by simp) (hb0.cell 0)) belowK_t (belowK_b (by simp; omega)) (Below.refl _ _) (fun _ => rfl)
    (fun pre W => (W.cell? ⟨w.heap.size, 0, none⟩ = some (.int .u16 (upTo pre)) ∧ W.frozen? ⟨w.heap.size, 0, none⟩ = false) ∧ Below w.heap.size w W)
    (fun _ _ _ => False)
    (OwnFrom.and (Own.from (fun s A B row hs hg hr => ⟨cell_kept hs.1 hg hr, (frozen_kept hs.1 hg hr).trans hs.2⟩) _) (ownFrom_below (Nat.le_refl _) (by simp; omega)))
    (fun _ _ _ _ _ hs _ _ => hs)
    ⟨⟨hs0.cell 0, hs0.frozen 0⟩, hB0⟩
    (fun x => { tmps := #[.slice A rows.length c, undef, .int .u16 0, .pointer (some ⟨w.heap.size, 0, none⟩), .int .u16 x.1, .slice A rows.length c, .func (.func 35) #[] #[.pointer (some ⟨w.heap.size + 1, 0, none⟩)], .int .u16 x.1, undef, undef, undef, undef], defers := [] }) ?assign ?body ?done ?stop
  case assign =>
    intro l x W K hK
    gi_wp2
    exact hK
  case body =>
    rintro l pre x W ⟨⟨hc, hf⟩, hB⟩ _
    gi_wp2
    refine ⟨trivial, ?_⟩
    refine (CallsIn.inRound l (callsIn_wide.2 (add_calls (upTo pre) x.1 W (upTo_bd pre) x.2))).mono ?_
    rintro e W1 ⟨rfl, rfl⟩
    gi_wp2
    exact ⟨KeepsOthers.setCell _ _ _, (Below.refl w.heap.size W).setCell (p := ⟨w.heap.size, 0, none⟩) (Nat.le_refl _) _, ⟨by rw [upTo_snoc]; exact World.cell?_setCell_same' _ _ _ (by rw [hc]; rfl), by rw [World.frozen?_setCell]; exact hf⟩, hB.setCell (p := ⟨w.heap.size, 0, none⟩) (Nat.le_refl _) _⟩
  case done =>
    rintro D ys W hD hys ⟨⟨hc, _⟩, hB⟩ hK
    have hfin : upTo ys = sumOf (flatB rows) := by rw [upTo, hys]; exact of_words _ HF.out
    rw [hfin] at hc
    have HY := Lib.hid hys
    clear hys hfin
    gi_wp2
    refine ⟨by simp, .inl ⟨_, _, rfl, run_takeDeferred hK, ?_⟩⟩
    exact ⟨_, results_tmp rfl _ _ _, rfl, hB.trans (belowK_b (w := w) (Nat.le_refl _) W D _ _ (by simp at hD; omega) hK rfl rfl)⟩
  case stop =>
    rintro D c pre W _ _ h _
    exact h.elim
end Go.Proofs.Ytmkinnkndjmpbaa.Sum
