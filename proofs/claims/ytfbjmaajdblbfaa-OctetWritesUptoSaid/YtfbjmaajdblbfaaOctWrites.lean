/- OctetWrites: the bytes of numbers and bytes, written one behind the other, are as the document says (up to so many bytes as a slice can hold). -/
import Derived.Test.YtfbjmaajdblbfaaOctAll
set_option linter.unusedSimpArgs false
set_option linter.unusedVariables false
attribute [local go_sem ↓] Go.wp_at_zero Go.wp_at_succ
namespace Go.Proofs.Ytfbjmaajdblbfaa.Oct
open Go.RowKit Go.BigFrame Go.OpenShut Go.Proofs.Ytfbjmaajdblbfaa.Aid
/-- An item and its bytes. -/
structure Piece where
  kind : Int
  n : Int
  ad : Option Addr
  cap : Nat
  bytes : List Int
def Piece.item (x : Piece) : Item := ⟨x.kind, x.n, .slice x.ad x.bytes.length x.cap⟩
def encP (x : Piece) : List Value := encI x.item
/-- A writer, and a list beside it, each of the call's own. -/
structure Both (w W : World) (g : Nat) (v u : Value) (xs zs : List Int) : Prop where
  wr : Wr w W g v xs
  row : RowOf 5 1 encB W u zs
  own : ∀ b, u.ownBlock = some b → w.heap.size ≤ b ∧ b ≠ g ∧ v.ownBlock ≠ some b
theorem Both.puts {w W W' : World} {g : Nat} {v v' u : Value} {xs ys zs : List Int} (h : Both w W g v u xs zs) (d : From_ W W' g v v' ys) : Both w W' g v' u ys zs :=
  ⟨h.wr.puts d, h.row.same fun k hk => d.kept.block k (h.row.lt k hk) (h.own k hk).2.1 (h.own k hk).2.2, fun b hb => ⟨(h.own b hb).1, (h.own b hb).2.1, fun e => by
    have hlt := h.row.lt b hb
    rcases d.own b e with h1 | h1
    · exact (h.own b hb).2.2 h1
    · omega⟩⟩
theorem Both.below {w W W' : World} {g : Nat} {v u : Value} {xs zs : List Int} (h : Both w W g v u xs zs) (hb : Below W.heap.size W W') : Both w W' g v u xs zs :=
  ⟨h.wr.below hb, h.row.below hb, h.own⟩
theorem Both.app {w W W' : World} {g : Nat} {v u u' : Value} {xs zs ys : List Int} (h : Both w W g v u xs zs) (ha : App W W' u u') (hr : RowOf 5 1 encB W' u' ys) : Both w W' g v u' xs ys := by
  have hsz := h.wr.bel.size
  refine ⟨⟨⟨(ha.block g h.wr.isW.box.lt (fun e => (h.own g e).2.1 rfl)).trans h.wr.isW.box, h.wr.isW.row.same fun k hk => ha.block k (h.wr.isW.row.lt k hk) (fun e => (h.own k e).2.2 hk), h.wr.isW.apart⟩, h.wr.gb, h.wr.vb, ?_⟩, hr, fun b hb => ?_⟩
  · exact ⟨ha.os.trans h.wr.bel.os, ha.tape.trans h.wr.bel.tape, ha.output.trans h.wr.bel.output, Nat.le_trans hsz ha.size, fun k hk => (ha.block k (by omega) (fun e => by have := (h.own k e).1; omega)).trans (h.wr.bel.block k hk)⟩
  · rcases ha.own b hb with h1 | h1
    · exact h.own b h1
    · refine ⟨by omega, fun e => ?_, fun e => ?_⟩
      · have := h.wr.isW.box.lt
        omega
      · have := h.wr.isW.row.lt b e
        omega
theorem Both.new {w W : World} (hb : Below w.heap.size w W) : Both w (W.alloc (.cells #[.slice none 0 0] 47)) W.heap.size (.slice none 0 0) (.slice none 0 0) [] [] :=
  ⟨wr_new w W hb, row_nil _, by simp [Value.ownBlock]⟩
def total (ys : List Piece) : Nat := (ys.map fun y => y.bytes.length).sum
theorem total_snoc (ys : List Piece) (y : Piece) : total (ys ++ [y]) = total ys + y.bytes.length := by simp [total]
theorem total_take (ys : List Piece) (k : Nat) : total (ys.take k) ≤ total ys := by
  have : total ys = total (ys.take k) + total (ys.drop k) := by
    have h := congrArg total (List.take_append_drop k ys)
    rw [← h]
    simp only [total, List.map_append, List.sum_append]
  omega
/-- What is known of a piece in its world. -/
structure WfPiece (w : World) (x : Piece) : Prop where
  kind : 0 ≤ x.kind ∧ x.kind ≤ 255
  far : x.ad = none → x.cap = 0
  reps : Reps w x.ad 1 encB x.bytes
  bytes : ∀ b ∈ x.bytes, 0 ≤ b ∧ b ≤ 255
theorem piece_cells {w : World} {B : Option Addr} {ys : List Piece} (h : Reps w B 3 encP ys) (k : Nat) (y : Piece) (hy : ys[k]? = some y) :
    ∃ bd, B = some bd ∧ w.cell? (bd.add (k * 3)) = some (.int .u8 y.kind) ∧ w.cell? ⟨(bd.add (k * 3)).block, (bd.add (k * 3)).off + 1, none⟩ = some (.int .i64 y.n) ∧ w.cell? ⟨(bd.add (k * 3)).block, (bd.add (k * 3)).off + 2, none⟩ = some (.slice y.ad y.bytes.length y.cap) := by
  obtain ⟨bd, rfl, _, hc⟩ := h k y hy
  refine ⟨bd, rfl, hc 0 _ rfl, ?_, ?_⟩
  · have := hc 1 _ rfl
    rw [← Go.Addr.add_add] at this
    simpa [Addr.add, encP, encI, Piece.item] using this
  · have := hc 2 _ rfl
    rw [← Go.Addr.add_add] at this
    simpa [Addr.add, encP, encI, Piece.item] using this
set_option maxRecDepth 100000 in
set_option maxHeartbeats 8000000 in
theorem writes_walk (B : Option Addr) (d : Nat) (ys : List Piece) (w : World) (hI : Reps w B 3 encP ys) (hk : ∀ y ∈ ys, WfPiece w y) (hm : ys.length ≤ 9223372036854775807) (ht : total ys ≤ 100000000000000) :
    Calls Try.prog 8 #[.slice B ys.length d] w (Yes w) := by
  obtain ⟨i0, hi, hz0, hz1, hz2⟩ := info_parts info5
  have I := Lib.hid hI
  have HK := Lib.hid hk
  have HT := Lib.hid ht
  clear hI hk ht
  go_enter Try.func8, Try.ntmps8
  go_wp2_with fail
  refine (known_calls _).mono ?_
  rintro e w1 ⟨rfl, b1⟩
  have B0 := Lib.hid (Both.new b1)
  clear b1
  go_wp2
  go_loopw [4, 5] (fun u i wr => ∃ (k : Nat) (v : Value) (xs : List Int), k ≤ 200 ∧ i = .int .i64 k ∧ Hid (xs.length ≤ 4 * k + total (ys.take k)) ∧ Hid (Both w wr w1.heap.size v u xs xs)) (fun _ i _ => 200 - (intOf i).toNat)
  case atStart => exact ⟨0, .slice none 0 0, [], by omega, rfl, Lib.hid (by simp), B0⟩
  case round =>
    obtain ⟨k, v, xs, hk, rfl, hX, hB⟩ := hrel
    clear B0
    by_cases hlt : k < ys.length ∧ k < 200
    · obtain ⟨hlt, h2⟩ := hlt
      obtain ⟨y, hy⟩ : ∃ y, ys[k]? = some y := ⟨_, List.getElem?_eq_getElem hlt⟩
      obtain ⟨bd, rfl, x0, x1, x2⟩ := piece_cells (I.out.below hB.out.wr.bel) k y hy
      have KB := HK.out y (List.mem_of_getElem? hy)
      obtain ⟨kb0, kb1⟩ := KB.kind
      have KP := Lib.hid KB
      have HS : Hid (xs.length + y.bytes.length + 4 ≤ 4 * (k + 1) + total (ys.take (k + 1)) ∧ 4 * (k + 1) + total (ys.take (k + 1)) ≤ 100000000001000) := Lib.hid (by
        have e : ys.take (k + 1) = ys.take k ++ [y] := by rw [List.take_succ_eq_append_getElem hlt, (List.getElem?_eq_some_iff.1 hy).2]
        rw [e, total_snoc]
        have e2 := total_take ys (k + 1)
        rw [e, total_snoc] at e2
        have := hX.out
        have := HT.out
        omega)
      have q0 : (0 : Int) ≤ (k : Int) := by omega
      have q1 : (k : Int) < (ys.length : Int) := by omega
      have q2 : (k : Int) < 200 := by omega
      have ht : y.kind.tmod 4 = y.kind % 4 := Int.tmod_eq_emod_of_nonneg kb0
      have hcs : y.kind % 4 = 0 ∨ y.kind % 4 = 1 ∨ y.kind % 4 = 2 ∨ y.kind % 4 = 3 := by omega
      have CELL : Hid (∀ W, Below w.heap.size w W → W.cell? ⟨(bd.add (k * 3)).block, (bd.add (k * 3)).off + 2, none⟩ = some (.slice y.ad y.bytes.length y.cap)) := Lib.hid (by
        intro W hW
        obtain ⟨bd2, e2, _, _, h2⟩ := piece_cells (I.out.below hW) k y hy
        cases e2
        exact h2)
      obtain ⟨s0, s1⟩ := HS.out
      have s2 : xs.length ≤ 100000000001000 := by omega
      have s3 : xs.length + y.bytes.length ≤ 100000000001000 := by omega
      clear s0 s1
      obtain ⟨C, n, cp, rfl⟩ := hB.out.row.some_slice
      clear hy KB hX
      rcases hcs with hq | hq | hq | hq
      · have hr : (y.n % 4294967296).tmod 256 = y.n % 256 := by rw [Int.tmod_eq_emod_of_nonneg (by omega)]; omega
        go_wp2_with fail
        refine (one_calls _ v xs (y.n % 256) _ hB.out.wr.isW (by omega) (by omega) (by omega)).mono ?_
        rintro e w3 ⟨rfl, v3, h3⟩
        have B3 := Lib.hid (hB.out.puts h3)
        clear h3 hB x0 x1 x2
        go_wp2_with fail
        refine (refnumber_calls (y.n % 256) 1 _ (by omega) (by omega) (by omega)).mono ?_
        rintro e w4 ⟨v4, rfl, r4, b4, _⟩
        obtain ⟨A4, c4, rfl, hA4, hR4⟩ := row_source r4
        have B4 := Lib.hid (B3.out.below b4)
        have HA4 := Lib.hid hA4
        have HR4 := Lib.hid hR4
        clear r4 b4 hA4 hR4 B3
        rw [bes_len]
        have HZ : Hid (xs.length + 1 = xs.length + 1) := Lib.hid rfl
        go_wp2_with (at_builtin; refine wpList_append_any (by rfl) _ _ 43 (by rfl) i0 _ 1 Try.underlying43 hi hz0 hz1 hz2 (by decide) (by decide) encB_len encB_one (.slice C n cp) xs (by rfl) B4.out.row A4 1 c4 (bes (y.n % 256) 1 0) (bes_len _ _ _) (by rfl) HA4.out HR4.out ?k2 ?k3 ?k4)
        case k2 => unfold maxLen; omega
        case k3 => omega
        case k4 =>
          intro v5 w5 hr5 ha5
          have hr5 : RowOf 5 1 encB w5 v5 (xs ++ bes (y.n % 256) 1 0) := hr5
          have B5 := Lib.hid (B4.out.app ha5 hr5)
          obtain ⟨A5, c5, rfl, _⟩ := hr5.slice
          clear hr5 ha5
          have hzl : (xs ++ bes (y.n % 256) 1 0).length = xs.length + 1 := by rw [List.length_append, bes_len]
          generalize xs ++ bes (y.n % 256) 1 0 = zs at *
          have HZL := Lib.hid hzl
          clear hzl
          go_wp2_with fail
          refine (len_calls _ v3 zs _ B5.out.wr.isW (by rw [HZL.out]; omega)).mono ?_
          rintro e w6 ⟨rfl, rfl⟩
          go_wp2
          go_roundw
          case rel => exact ⟨k + 1, v3, zs, by omega, by go_num, Lib.hid (by rw [HZL.out]; have := HS.out; omega), B5⟩
          case measure => simp [intOf]; omega
      · have hr : (y.n % 4294967296).tmod 65536 = y.n % 65536 := by rw [Int.tmod_eq_emod_of_nonneg (by omega)]; omega
        have hw : IntKind.u16.wrap (y.n % 4294967296) = y.n % 65536 := by rw [IntKind.wrap_u16]; omega
        go_wp2_with fail
        clear hw
        refine (two_calls _ v xs (y.n % 65536) _ hB.out.wr.isW (by omega) (by omega) (by omega)).mono ?_
        rintro e w3 ⟨rfl, v3, h3⟩
        have B3 := Lib.hid (hB.out.puts h3)
        clear h3 hB x0 x1 x2
        go_wp2_with fail
        refine (refnumber_calls (y.n % 65536) 2 _ (by omega) (by omega) (by omega)).mono ?_
        rintro e w4 ⟨v4, rfl, r4, b4, _⟩
        obtain ⟨A4, c4, rfl, hA4, hR4⟩ := row_source r4
        have B4 := Lib.hid (B3.out.below b4)
        have HA4 := Lib.hid hA4
        have HR4 := Lib.hid hR4
        clear r4 b4 hA4 hR4 B3
        rw [bes_len]
        have HZ : Hid (xs.length + 2 = xs.length + 2) := Lib.hid rfl
        go_wp2_with (at_builtin; refine wpList_append_any (by rfl) _ _ 43 (by rfl) i0 _ 1 Try.underlying43 hi hz0 hz1 hz2 (by decide) (by decide) encB_len encB_one (.slice C n cp) xs (by rfl) B4.out.row A4 2 c4 (bes (y.n % 65536) 2 0) (bes_len _ _ _) (by rfl) HA4.out HR4.out ?k2 ?k3 ?k4)
        case k2 => unfold maxLen; omega
        case k3 => omega
        case k4 =>
          intro v5 w5 hr5 ha5
          have hr5 : RowOf 5 1 encB w5 v5 (xs ++ bes (y.n % 65536) 2 0) := hr5
          have B5 := Lib.hid (B4.out.app ha5 hr5)
          obtain ⟨A5, c5, rfl, _⟩ := hr5.slice
          clear hr5 ha5
          have hzl : (xs ++ bes (y.n % 65536) 2 0).length = xs.length + 2 := by rw [List.length_append, bes_len]
          generalize xs ++ bes (y.n % 65536) 2 0 = zs at *
          have HZL := Lib.hid hzl
          clear hzl
          go_wp2_with fail
          refine (len_calls _ v3 zs _ B5.out.wr.isW (by rw [HZL.out]; omega)).mono ?_
          rintro e w6 ⟨rfl, rfl⟩
          go_wp2
          go_roundw
          case rel => exact ⟨k + 1, v3, zs, by omega, by go_num, Lib.hid (by rw [HZL.out]; have := HS.out; omega), B5⟩
          case measure => simp [intOf]; omega
      · go_wp2_with fail
        refine (four_calls _ v xs (y.n % 4294967296) _ hB.out.wr.isW (by omega) (by omega) (by omega)).mono ?_
        rintro e w3 ⟨rfl, v3, h3⟩
        have B3 := Lib.hid (hB.out.puts h3)
        clear h3 hB x0 x1 x2
        go_wp2_with fail
        refine (refnumber_calls (y.n % 4294967296) 4 _ (by omega) (by omega) (by omega)).mono ?_
        rintro e w4 ⟨v4, rfl, r4, b4, _⟩
        obtain ⟨A4, c4, rfl, hA4, hR4⟩ := row_source r4
        have B4 := Lib.hid (B3.out.below b4)
        have HA4 := Lib.hid hA4
        have HR4 := Lib.hid hR4
        clear r4 b4 hA4 hR4 B3
        rw [bes_len]
        have HZ : Hid (xs.length + 4 = xs.length + 4) := Lib.hid rfl
        go_wp2_with (at_builtin; refine wpList_append_any (by rfl) _ _ 43 (by rfl) i0 _ 1 Try.underlying43 hi hz0 hz1 hz2 (by decide) (by decide) encB_len encB_one (.slice C n cp) xs (by rfl) B4.out.row A4 4 c4 (bes (y.n % 4294967296) 4 0) (bes_len _ _ _) (by rfl) HA4.out HR4.out ?k2 ?k3 ?k4)
        case k2 => unfold maxLen; omega
        case k3 => omega
        case k4 =>
          intro v5 w5 hr5 ha5
          have hr5 : RowOf 5 1 encB w5 v5 (xs ++ bes (y.n % 4294967296) 4 0) := hr5
          have B5 := Lib.hid (B4.out.app ha5 hr5)
          obtain ⟨A5, c5, rfl, _⟩ := hr5.slice
          clear hr5 ha5
          have hzl : (xs ++ bes (y.n % 4294967296) 4 0).length = xs.length + 4 := by rw [List.length_append, bes_len]
          generalize xs ++ bes (y.n % 4294967296) 4 0 = zs at *
          have HZL := Lib.hid hzl
          clear hzl
          go_wp2_with fail
          refine (len_calls _ v3 zs _ B5.out.wr.isW (by rw [HZL.out]; omega)).mono ?_
          rintro e w6 ⟨rfl, rfl⟩
          go_wp2
          go_roundw
          case rel => exact ⟨k + 1, v3, zs, by omega, by go_num, Lib.hid (by rw [HZL.out]; have := HS.out; omega), B5⟩
          case measure => simp [intOf]; omega
      · go_wp2_with fail
        refine (all_calls _ v xs y.bytes y.ad y.cap _ hB.out.wr.isW KP.out.far (KP.out.reps.below hB.out.wr.bel) (by omega)).mono ?_
        rintro e w3 ⟨rfl, v3, h3⟩
        have B4 := Lib.hid (hB.out.puts h3)
        have C4 := CELL.out w3 B4.out.wr.bel
        have HR4 := Lib.hid (KP.out.reps.below B4.out.wr.bel)
        clear h3 hB x0 x1 x2
        go_wp2_with (at_builtin; refine wpList_append_any (by rfl) _ _ 43 (by rfl) i0 _ 1 Try.underlying43 hi hz0 hz1 hz2 (by decide) (by decide) encB_len encB_one (.slice C n cp) xs (by rfl) B4.out.row y.ad y.bytes.length y.cap y.bytes rfl (by rfl) KP.out.far HR4.out ?k2 ?k3 ?k4)
        case k2 => unfold maxLen; omega
        case k3 => omega
        case k4 =>
          intro v5 w5 hr5 ha5
          have hr5 : RowOf 5 1 encB w5 v5 (xs ++ y.bytes) := hr5
          have B5 := Lib.hid (B4.out.app ha5 hr5)
          obtain ⟨A5, c5, rfl, _⟩ := hr5.slice
          clear hr5 ha5
          have hzl : (xs ++ y.bytes).length = xs.length + y.bytes.length := by rw [List.length_append]
          generalize xs ++ y.bytes = zs at *
          have HZL := Lib.hid hzl
          clear hzl
          go_wp2_with fail
          refine (len_calls _ v3 zs _ B5.out.wr.isW (by rw [HZL.out]; omega)).mono ?_
          rintro e w6 ⟨rfl, rfl⟩
          go_wp2
          go_roundw
          case rel => exact ⟨k + 1, v3, zs, by omega, by go_num, Lib.hid (by rw [HZL.out]; have := HS.out; omega), B5⟩
          case measure => simp [intOf]; omega
    · have HF : Hid (xs.length ≤ 100000000001000) := Lib.hid (by
        have h1 := hX.out
        have h2 := total_take ys k
        have h3 := HT.out
        omega)
      clear hX
      by_cases hkn : k < ys.length
      · have s1 : (k : Int) < (ys.length : Int) := by omega
        have s2 : ¬ (k : Int) < 200 := by omega
        clear hlt
        go_wp2_with fail
        refine (bytes_any _ v xs _ hB.out.wr.isW (by have := HF.out; omega)).mono ?_
        rintro e w3 ⟨v3, rfl, r3, b3, _⟩
        obtain ⟨A3, c3, rfl, _, hR3⟩ := row_source r3
        have B3 := Lib.hid (hB.out.below b3)
        obtain ⟨A4, c4, rfl, hA4, hR4⟩ := row_source B3.out.row
        have HR3 := Lib.hid hR3
        have HR4 := Lib.hid hR4
        clear r3 b3 hR3 hR4 hA4 hB
        go_wp2_with fail
        refine (same_calls A3 A4 c3 c4 xs _ HR3.out HR4.out (by have := HF.out; omega)).mono ?_
        rintro e w4 ⟨rfl, b4⟩
        have B4 := Lib.hid (B3.out.below b4)
        clear b4
        go_wp2_with fail
        refine (known_calls _).mono ?_
        rintro e w5 ⟨rfl, b5⟩
        have B5 := Lib.hid (B4.out.below b5)
        clear b5
        go_wp2
        go_ret
        exact ⟨rfl, B5.out.wr.bel⟩
      · have s1 : ¬ (k : Int) < (ys.length : Int) := by omega
        clear hlt
        go_wp2_with fail
        refine (bytes_any _ v xs _ hB.out.wr.isW (by have := HF.out; omega)).mono ?_
        rintro e w3 ⟨v3, rfl, r3, b3, _⟩
        obtain ⟨A3, c3, rfl, _, hR3⟩ := row_source r3
        have B3 := Lib.hid (hB.out.below b3)
        obtain ⟨A4, c4, rfl, hA4, hR4⟩ := row_source B3.out.row
        have HR3 := Lib.hid hR3
        have HR4 := Lib.hid hR4
        clear r3 b3 hR3 hR4 hA4 hB
        go_wp2_with fail
        refine (same_calls A3 A4 c3 c4 xs _ HR3.out HR4.out (by have := HF.out; omega)).mono ?_
        rintro e w4 ⟨rfl, b4⟩
        have B4 := Lib.hid (B3.out.below b4)
        clear b4
        go_wp2_with fail
        refine (known_calls _).mono ?_
        rintro e w5 ⟨rfl, b5⟩
        have B5 := Lib.hid (B4.out.below b5)
        clear b5
        go_wp2
        go_ret
        exact ⟨rfl, B5.out.wr.bel⟩
end Go.Proofs.Ytfbjmaajdblbfaa.Oct
