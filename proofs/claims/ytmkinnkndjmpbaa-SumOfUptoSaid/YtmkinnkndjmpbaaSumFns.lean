/- Chapter 3's Check, Fine, Turn, the document's Fold and Of (ref03), and the fixed calls. -/
import Derived.Test.YtmkinnkndjmpbaaSumOf
namespace Go.Proofs.Ytmkinnkndjmpbaa.Sum
open Go.RowKit Go.Shelf Go.Proofs.Ytmkinnkndjmpbaa.Aid Go.Proofs.Ytmkinnkndjmpbaa.SumPlain
def rowOf (A : Option Addr) (c : Nat) (xs : List Int) : Row := ⟨A, c, xs⟩
/-- A list of bytes that came in. -/
structure In (w : World) (A : Option Addr) (xs : List Int) : Prop where
  reps : Reps w A 1 encB xs
  len : xs.length ≤ 140737488351300
  bytes : Bytes xs
theorem In.below {w w' : World} {A : Option Addr} {xs : List Int} (h : In w A xs) (hb : Below w.heap.size w w') : In w' A xs := ⟨h.reps.below hb, h.len, h.bytes⟩
theorem In.alloc {w : World} {A : Option Addr} {xs : List Int} (h : In w A xs) (o : Obj) : In (w.alloc o) A xs := h.below ((Below.refl _ w).alloc (Nat.le_refl _) o)
theorem lists_of {w : World} {rows : List Row} {cs : Array Value} (hcs : cs.toList = rows.flatMap encRow) (h : ∀ r ∈ rows, In w r.ad r.bytes) : Lists (w.alloc (.cells cs 40)) (some ⟨w.heap.size, 0, none⟩) rows := by
  refine ⟨?_, fun r hr => ⟨((h r hr).alloc _).reps, (h r hr).len, (h r hr).bytes⟩⟩
  intro i r hi
  refine ⟨_, rfl, by simp, fun j v hv => ?_⟩
  have hf := flat_at (enc := encRow) (sz := 1) (fun _ => rfl) rows i r j v hi hv
  exact blk_cells _ _ 40 cs (Blk.new w 40 cs) _ _ (by rw [hcs]; exact hf)
/-- The sum of one list that is handed over by itself. -/
theorem of_one (A : Option Addr) (c : Nat) (xs : List Int) (w : World) (h : In w A xs) :
    Calls Try.prog 27 #[.slice (some ⟨w.heap.size, 0, none⟩) 1 1] (w.alloc (.cells #[.slice A xs.length c] 40)) fun e w' => e = .returned (.int .u16 (sumOf xs)) ∧ Below w.heap.size w w' := by
  have hl : Lists (w.alloc (.cells #[.slice A xs.length c] 40)) (some ⟨w.heap.size, 0, none⟩) [rowOf A c xs] := by
    refine lists_of rfl ?_
    intro r hr
    have : r = rowOf A c xs := by simpa using hr
    subst this
    exact h
  have := of_calls (some ⟨w.heap.size, 0, none⟩) 1 [rowOf A c xs] (by simp) _ hl
  have e : flatB [rowOf A c xs] = xs := by simp [flatB, rowOf]
  rw [e] at this
  exact this.mono fun _ _ ⟨h1, h2⟩ => ⟨h1, below_then ((Below.refl _ w).alloc (Nat.le_refl _) _) (by simp) h2⟩
theorem of_two (A B : Option Addr) (c d : Nat) (xs ys : List Int) (w : World) (h : In w A xs) (k : In w B ys) :
    Calls Try.prog 27 #[.slice (some ⟨w.heap.size, 0, none⟩) 2 2] (w.alloc (.cells #[.slice A xs.length c, .slice B ys.length d] 40)) fun e w' => e = .returned (.int .u16 (sumOf (xs ++ ys))) ∧ Below w.heap.size w w' := by
  have hl : Lists (w.alloc (.cells #[.slice A xs.length c, .slice B ys.length d] 40)) (some ⟨w.heap.size, 0, none⟩) [rowOf A c xs, rowOf B d ys] := by
    refine lists_of rfl ?_
    intro r hr
    have : r = rowOf A c xs ∨ r = rowOf B d ys := by simpa using hr
    rcases this with rfl | rfl
    · exact h
    · exact k
  have := of_calls (some ⟨w.heap.size, 0, none⟩) 2 [rowOf A c xs, rowOf B d ys] (by simp) _ hl
  have e : flatB [rowOf A c xs, rowOf B d ys] = xs ++ ys := by simp [flatB, rowOf]
  rw [e] at this
  exact this.mono fun _ _ ⟨h1, h2⟩ => ⟨h1, below_then ((Below.refl _ w).alloc (Nat.le_refl _) _) (by simp) h2⟩
theorem xor_all (s : Nat) (h : s < 65536) : 65535 ^^^ s = 65535 - s := by
  have e := congrArg BitVec.toNat (BitVec.allOnes_xor (x := BitVec.ofNat 16 s))
  rw [BitVec.toNat_xor, BitVec.toNat_not, BitVec.toNat_allOnes, BitVec.toNat_ofNat, Nat.mod_eq_of_lt h] at e
  exact e
theorem xor_word (s : Int) (h0 : 0 ≤ s) (h1 : s ≤ 65535) : bits .xor .u16 IntKind.u16.max s = 65535 - s := by
  obtain ⟨m, rfl⟩ := Int.eq_ofNat_of_zero_le h0
  have h := u16_xor_nat 65535 m (by omega) (by omega)
  rw [xor_all m (by omega)] at h
  rw [show IntKind.u16.max = ((65535 : Nat) : Int) from rfl, h]
  omega
theorem sum_bd (xs : List Int) : 0 ≤ sumOf xs ∧ sumOf xs ≤ 65535 := canon_bd _
theorem check_calls (A : Option Addr) (c n : Nat) (s : Int) (w : World) (hs : 0 ≤ s ∧ s ≤ 65535) (h : Calls Try.prog 27 #[.slice A n c] w fun e w' => e = .returned (.int .u16 s) ∧ Below w.heap.size w w') :
    Calls Try.prog 28 #[.slice A n c] w fun e w' => e = .returned (.int .u16 (65535 - s)) ∧ Below w.heap.size w w' := by
  obtain ⟨s0, s1⟩ := hs
  have H := Lib.hid h
  have hx := xor_word s s0 s1
  clear h
  go_enter Try.func28, Try.ntmps28
  go_wp2_with fail
  refine H.out.mono ?_
  rintro e w1 ⟨rfl, b1⟩
  go_wp2
  go_ret
  exact ⟨rfl, b1⟩
theorem fine_calls (A : Option Addr) (c : Nat) (xs : List Int) (w : World) (h : In w A xs) :
    Calls Try.prog 29 #[.slice A xs.length c] w fun e w' => e = .returned (.bool (decide (sumOf xs = 65535))) ∧ Below w.heap.size w w' := by
  have H := Lib.hid (of_one A c xs w h)
  have hs := sum_bd xs
  clear h
  obtain ⟨n, hn⟩ : ∃ n, n = xs.length := ⟨_, rfl⟩
  rw [← hn] at H
  rw [← hn]
  clear hn
  generalize sumOf xs = s at *
  go_enter Try.func29, Try.ntmps29
  go_wp2_with fail
  refine H.out.mono ?_
  rintro e w1 ⟨rfl, b1⟩
  go_wp2
  go_ret
  exact ⟨ret_bool (by rw [Bool.eq_iff_iff]; simp), b1⟩
set_option maxHeartbeats 1000000 in
theorem turn_calls (k o n : Int) (w : World) (hk : 0 ≤ k ∧ k ≤ 65535) (ho : 0 ≤ o ∧ o ≤ 65535) (hn : 0 ≤ n ∧ n ≤ 65535) :
    Calls Try.prog 32 #[.int .u16 k, .int .u16 o, .int .u16 n] w fun e w' => e = .returned (.int .u16 (65535 - canon (canon ((65535 - k) + (65535 - o)) + n))) ∧ w = w' := by
  obtain ⟨k0, k1⟩ := hk
  obtain ⟨o0, o1⟩ := ho
  obtain ⟨n0, n1⟩ := hn
  have hb := canon_bd ((65535 - k) + (65535 - o))
  have hc := canon_bd (canon ((65535 - k) + (65535 - o)) + n)
  have A1 := Lib.hid (add_calls (65535 - k) (65535 - o) w ⟨by omega, by omega⟩ ⟨by omega, by omega⟩)
  have A2 := Lib.hid (add_calls (canon ((65535 - k) + (65535 - o))) n w hb ⟨by omega, by omega⟩)
  generalize canon (canon ((65535 - k) + (65535 - o)) + n) = q at *
  generalize canon ((65535 - k) + (65535 - o)) = p at *
  obtain ⟨p0, p1⟩ := hb
  obtain ⟨q0, q1⟩ := hc
  have x1 := xor_word k k0 k1
  have x2 := xor_word o o0 o1
  have x3 := xor_word q q0 q1
  go_enter Try.func32, Try.ntmps32
  go_wp2_with fail
  refine A1.out.mono ?_
  rintro e w1 ⟨rfl, rfl⟩
  go_wp2_with fail
  refine A2.out.mono ?_
  rintro e w1 ⟨rfl, rfl⟩
  go_wp2
  go_ret
  exact ⟨rfl, rfl⟩
theorem fold_calls (n : Int) (w : World) (h0 : 0 ≤ n) (h1 : n ≤ 281474976710656) : Calls Try.prog 31 #[.int .i64 n] w fun e w' => e = .returned (.int .i64 (canon n)) ∧ w = w' := by
  obtain ⟨q, hq⟩ : ∃ q, q = canon n := ⟨_, rfl⟩
  rw [← hq]
  have HQ := Lib.hid hq
  clear hq
  go_enter Try.func31, Try.ntmps31
  go_wp2
  go_loop [0] (fun v => ∃ m : Int, 0 ≤ m ∧ m ≤ 281474976710656 ∧ v = .int .i64 m ∧ Hid (q = canon m)) (fun v => (intOf v).toNat)
  case atStart => exact ⟨n, h0, h1, rfl, HQ⟩
  case round =>
    obtain ⟨m, m0, m1, rfl, hq⟩ := hrel
    by_cases c : m > 65535
    · go_wp2
      go_round
      case rel => exact ⟨m % 65536 + m / 65536, by omega, by omega, rfl, Lib.hid (by rw [hq.out, canon_step m (by omega)])⟩
      case measure => simp [intOf]; omega
    · go_wp2
      go_ret
      exact ⟨ret_int (by rw [hq.out, canon_small m m0 (by omega)]), rfl⟩
theorem ref_of (A : Option Addr) (c : Nat) (xs : List Int) (w : World) (h : In w A xs) :
    Calls Try.prog 26 #[.slice A xs.length c] w fun e w' => e = .returned (.int .i64 (sumOf xs)) ∧ w = w' := by
  have hl := h.len
  have H := Lib.hid h
  clear h
  go_enter Try.func26, Try.ntmps26
  go_wp2
  go_loop [3, 4] (fun n i => ∃ (k : Nat) (s : Int), k ≤ xs.length ∧ i = .int .i64 k ∧ n = .int .i64 s ∧ Hid (s = sumOf (xs.take k))) (fun _ i => xs.length - (intOf i).toNat)
  case atStart => exact ⟨0, 0, by omega, rfl, rfl, Lib.hid rfl⟩
  case round =>
    obtain ⟨k, s, hk, rfl, rfl, hs⟩ := hrel
    have hb := sum_bd (xs.take k)
    rw [← hs.out] at hb
    obtain ⟨s0, s1⟩ := hb
    by_cases hlt : k < xs.length
    · obtain ⟨x, hx⟩ : ∃ x, xs[k]? = some x := ⟨_, List.getElem?_eq_getElem hlt⟩
      obtain ⟨ad, rfl, hl2, hc⟩ := H.out.reps k x hx
      obtain ⟨x0, x1⟩ := H.out.bytes x (List.mem_of_getElem? hx)
      have c0 : w.cell? (ad.add k) = some (.int .u8 x) := by have := hc 0 _ rfl; simpa using this
      have htk : xs.take (k + 1) = xs.take k ++ [x] := by
        rw [List.take_succ_eq_append_getElem hlt, (List.getElem?_eq_some_iff.1 hx).2]
      have hlk : (xs.take k).length = k := by rw [List.length_take]; omega
      have hst := ref_step (xs.take k) x (fun y hy => H.out.bytes y (List.mem_of_mem_take hy)) ⟨x0, x1⟩
      rw [← htk, ← hs.out, hlk] at hst
      have HST := Lib.hid hst
      clear hst htk hlk hc hx
      by_cases he : k % 2 = 0
      · have hd : ((k : Int) % 2 == 0) = true := by simp; omega
        have F := Lib.hid (fold_calls (s + 256 * x) w (by omega) (by omega))
        go_wp2_with fail
        refine F.out.mono ?_
        rintro e w1 ⟨rfl, rfl⟩
        go_wp2
        go_round
        case rel => exact ⟨k + 1, canon (s + 256 * x), by omega, by go_num, rfl, Lib.hid (by rw [HST.out, if_pos he])⟩
        case measure => simp [intOf]; omega
      · have hd : ((k : Int) % 2 == 0) = false := by simp; omega
        have F := Lib.hid (fold_calls (s + x) w (by omega) (by omega))
        go_wp2_with fail
        refine F.out.mono ?_
        rintro e w1 ⟨rfl, rfl⟩
        go_wp2
        go_round
        case rel => exact ⟨k + 1, canon (s + x), by omega, by go_num, rfl, Lib.hid (by rw [HST.out, if_neg he])⟩
        case measure => simp [intOf]; omega
    · go_wp2
      go_ret
      exact ⟨ret_int (by rw [hs.out, List.take_of_length_le (by omega)]), rfl⟩
theorem in_new {w : World} {cs : Array Value} {xs : List Int} (h : cs.toList = xs.flatMap encB) (hl : xs.length ≤ 140737488351300) (hb : Bytes xs) : In (w.alloc (.cells cs 5)) (some ⟨w.heap.size, 0, none⟩) xs := by
  refine ⟨?_, hl, hb⟩
  intro i x hi
  refine ⟨_, rfl, by simp, fun j v hv => ?_⟩
  have hf := flat_at (enc := encB) (sz := 1) (fun _ => rfl) xs i x j v hi hv
  exact blk_cells _ _ 5 cs (Blk.new w 5 cs) _ _ (by rw [h]; exact hf)
theorem in_nil (w : World) (A : Option Addr) : In w A [] := ⟨Reps.nil _ _ _ _, by simp, by intro x hx; simp at hx⟩
instance (l : List Int) : Decidable (Bytes l) := by unfold Bytes; infer_instance
theorem known_calls (w : World) : Calls Try.prog 24 #[] w fun e w' => e = .returned (.bool true) ∧ Below w.heap.size w w' := by
  have S1 : sumOf [0, 1, 242, 3, 244, 245, 246, 247] = 56818 := by decide
  have S2 : sumOf [1] = 256 := by decide
  have S3 : sumOf [] = 0 := by decide
  have S4 : sumOf [255, 255] = 65535 := by decide
  have K1 : Hid (∀ w : World, Calls Try.prog 27 #[.slice (some ⟨w.heap.size + 1, 0, none⟩) 1 1] ((w.alloc (.cells #[.int .u8 0, .int .u8 1, .int .u8 242, .int .u8 3, .int .u8 244, .int .u8 245, .int .u8 246, .int .u8 247] 5)).alloc (.cells #[.slice (some ⟨w.heap.size, 0, none⟩) 8 8] 40)) fun e w' => e = .returned (.int .u16 56818) ∧ Below w.heap.size w w') := Lib.hid (fun w => by
    have h := of_one (some ⟨w.heap.size, 0, none⟩) 8 [0, 1, 242, 3, 244, 245, 246, 247] _ (in_new (w := w) (cs := #[.int .u8 0, .int .u8 1, .int .u8 242, .int .u8 3, .int .u8 244, .int .u8 245, .int .u8 246, .int .u8 247]) rfl (by decide) (by decide))
    rw [S1, World.size_alloc] at h
    exact h.mono fun _ _ ⟨h1, h2⟩ => ⟨h1, ((Below.refl _ w).alloc (Nat.le_refl _) _).trans (h2.mono (by simp))⟩)
  have K2 : Hid (∀ w : World, Calls Try.prog 27 #[.slice (some ⟨w.heap.size + 1, 0, none⟩) 1 1] ((w.alloc (.cells #[.int .u8 1] 5)).alloc (.cells #[.slice (some ⟨w.heap.size, 0, none⟩) 1 1] 40)) fun e w' => e = .returned (.int .u16 256) ∧ Below w.heap.size w w') := Lib.hid (fun w => by
    have h := of_one (some ⟨w.heap.size, 0, none⟩) 1 [1] _ (in_new (w := w) (cs := #[.int .u8 1]) rfl (by decide) (by decide))
    rw [S2, World.size_alloc] at h
    exact h.mono fun _ _ ⟨h1, h2⟩ => ⟨h1, ((Below.refl _ w).alloc (Nat.le_refl _) _).trans (h2.mono (by simp))⟩)
  have K3 : Hid (∀ w : World, Calls Try.prog 28 #[.slice none 0 0] w fun e w' => e = .returned (.int .u16 65535) ∧ Below w.heap.size w w') := Lib.hid (fun w => by
    have h := check_calls none 0 0 0 w (by omega) (by have := of_calls none 0 [] (by simp) w ⟨Reps.nil _ _ _ _, by simp⟩; rw [show flatB [] = [] from rfl, S3] at this; exact this)
    exact h)
  have K4 : Hid (∀ w : World, Calls Try.prog 29 #[.slice (some ⟨w.heap.size, 0, none⟩) 2 2] (w.alloc (.cells #[.int .u8 255, .int .u8 255] 5)) fun e w' => e = .returned (.bool true) ∧ Below w.heap.size w w') := Lib.hid (fun w => by
    have h := fine_calls (some ⟨w.heap.size, 0, none⟩) 2 [255, 255] _ (in_new (w := w) (cs := #[.int .u8 255, .int .u8 255]) rfl (by decide) (by decide))
    rw [S4] at h
    exact h.mono fun _ _ ⟨h1, h2⟩ => ⟨h1, ((Below.refl _ w).alloc (Nat.le_refl _) _).trans (h2.mono (by simp))⟩)
  clear S1 S2 S3 S4
  go_enter Try.func24, Try.ntmps24
  go_wp2_with fail
  refine (K1.out _).mono ?_
  rintro e w1 ⟨rfl, b1⟩
  go_wp2_with fail
  refine (K2.out _).mono ?_
  rintro e w2 ⟨rfl, b2⟩
  go_wp2_with fail
  refine (K3.out _).mono ?_
  rintro e w3 ⟨rfl, b3⟩
  go_wp2_with fail
  refine (K4.out _).mono ?_
  rintro e w4 ⟨rfl, b4⟩
  go_wp2
  go_ret
  have c2 := below_then b1 b1.size b2
  have c3 := below_then c2 c2.size b3
  exact ⟨rfl, below_then c3 c3.size b4⟩
end Go.Proofs.Ytmkinnkndjmpbaa.Sum
