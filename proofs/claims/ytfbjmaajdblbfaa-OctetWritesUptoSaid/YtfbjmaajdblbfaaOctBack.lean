/- OctetBack: what was written is read, number by number, and nothing is left. -/
import Derived.Test.YtfbjmaajdblbfaaOctLaws
set_option linter.unusedSimpArgs false
set_option linter.unusedVariables false
attribute [local go_sem ↓] Go.wp_at_zero Go.wp_at_succ
namespace Go.Proofs.Ytfbjmaajdblbfaa.Oct
open Go.RowKit Go.OpenShut Go.Proofs.Ytfbjmaajdblbfaa.Aid
/-- A reader of the call's own. -/
structure Rd (w W : World) (g b cap at_ : Nat) (xs : List Int) : Prop where
  isR : IsR W g b cap at_ xs
  gb : w.heap.size ≤ g
  bel : Below w.heap.size w W
theorem Rd.kept {w W W' : World} {g b cap at_ at2 : Nat} {xs : List Int} (h : Rd w W g b cap at_ xs) (hi : IsR W' g b cap at2 xs) (hk : Kept W W' g (.slice none 0 0)) : Rd w W' g b cap at2 xs :=
  ⟨hi, h.gb, ⟨hk.os.trans h.bel.os, hk.tape.trans h.bel.tape, hk.output.trans h.bel.output, Nat.le_trans h.bel.size hk.size, fun k hlt => (hk.block k (Nat.lt_of_lt_of_le hlt h.bel.size) (by have := h.gb; omega) (by simp [Value.ownBlock])).trans (h.bel.block k hlt)⟩⟩
theorem Rd.below {w W W' : World} {g b cap at_ : Nat} {xs : List Int} (h : Rd w W g b cap at_ xs) (hb : Below W.heap.size W W') : Rd w W' g b cap at_ xs := ⟨h.isR.below hb, h.gb, below_then h.bel h.bel.size hb⟩
def enc3 (n : Int) : List Int := bes n 4 0 ++ bes (n % 65536) 2 0 ++ bes (n % 256) 1 0
def stream (xs : List Int) : List Int := xs.flatMap enc3
theorem enc3_len (n : Int) : (enc3 n).length = 7 := by simp [enc3, bes_len]
theorem stream_len : ∀ xs : List Int, (stream xs).length = 7 * xs.length
  | [] => rfl
  | x :: r => by
    have := stream_len r
    unfold stream at this ⊢
    rw [List.flatMap_cons, List.length_append, enc3_len, this, List.length_cons]
    omega
theorem bes_bytes (n : Int) (s j : Nat) : ∀ x ∈ bes n s j, 0 ≤ x ∧ x ≤ 255 := by
  intro x hx
  unfold bes at hx
  obtain ⟨t, _, rfl⟩ := List.mem_map.1 hx
  unfold dig
  omega
theorem stream_bytes (xs : List Int) : ∀ x ∈ stream xs, 0 ≤ x ∧ x ≤ 255 := by
  intro x hx
  obtain ⟨y, _, hy⟩ := List.mem_flatMap.1 hx
  unfold enc3 at hy
  rcases List.mem_append.1 hy with hy | hy
  · rcases List.mem_append.1 hy with hy | hy
    · exact bes_bytes _ _ _ x hy
    · exact bes_bytes _ _ _ x hy
  · exact bes_bytes _ _ _ x hy
theorem stream_snoc (xs : List Int) (x : Int) : stream (xs ++ [x]) = stream xs ++ bes x 4 0 ++ bes (x % 65536) 2 0 ++ bes (x % 256) 1 0 := by simp [stream, enc3]
theorem val4 (n : Int) (h0 : 0 ≤ n) (h1 : n ≤ 4294967295) : val (bes n 4 0) = n := by
  have e : bes n 4 0 = [dig n 3, dig n 2, dig n 1, dig n 0] := rfl
  rw [e]
  simp only [val, dig, List.foldl_cons, List.foldl_nil]
  omega
theorem val2 (n : Int) (h0 : 0 ≤ n) (h1 : n ≤ 65535) : val (bes n 2 0) = n := by
  have e : bes n 2 0 = [dig n 1, dig n 0] := rfl
  rw [e]
  simp only [val, dig, List.foldl_cons, List.foldl_nil]
  omega
theorem val1 (n : Int) (h0 : 0 ≤ n) (h1 : n ≤ 255) : val (bes n 1 0) = n := by
  have e : bes n 1 0 = [dig n 0] := rfl
  rw [e]
  simp only [val, dig, List.foldl_cons, List.foldl_nil]
  omega
theorem seg (P a r : List Int) (p s : Nat) (hp : P.length = p) (hs : a.length = s) : ((P ++ (a ++ r)).drop p).take s = a := by
  subst hp hs
  simp
theorem stream_at (xs : List Int) (k : Nat) (x : Int) (hx : xs[k]? = some x) : ∃ r, stream xs = stream (xs.take k) ++ (enc3 x ++ r) := by
  have hlt : k < xs.length := (List.getElem?_eq_some_iff.1 hx).1
  have e : xs = xs.take k ++ (x :: xs.drop (k + 1)) := by
    have := (List.getElem?_eq_some_iff.1 hx).2
    conv => lhs; rw [← List.take_append_drop k xs]
    rw [List.drop_eq_getElem_cons hlt, this]
  refine ⟨stream (xs.drop (k + 1)), ?_⟩
  conv => lhs; rw [e]
  simp [stream]
/-- What stands at the k-th number's place. -/
theorem parts3 (xs : List Int) (k : Nat) (x : Int) (hx : xs[k]? = some x) (h0 : 0 ≤ x) (h1 : x ≤ 4294967295) :
    val (((stream xs).drop (7 * k)).take 4) = x ∧ val (((stream xs).drop (7 * k + 4)).take 2) = x % 65536 ∧ val (((stream xs).drop (7 * k + 6)).take 1) = x % 256 := by
  obtain ⟨r, hr⟩ := stream_at xs k x hx
  have hlt : k < xs.length := (List.getElem?_eq_some_iff.1 hx).1
  have hl : (stream (xs.take k)).length = 7 * k := by rw [stream_len, List.length_take]; omega
  rw [hr]
  unfold enc3
  refine ⟨?_, ?_, ?_⟩
  · rw [show stream (xs.take k) ++ (bes x 4 0 ++ bes (x % 65536) 2 0 ++ bes (x % 256) 1 0 ++ r) = stream (xs.take k) ++ (bes x 4 0 ++ (bes (x % 65536) 2 0 ++ bes (x % 256) 1 0 ++ r)) by simp, seg _ _ _ _ _ hl (by simp [bes_len])]
    exact val4 x h0 h1
  · rw [show stream (xs.take k) ++ (bes x 4 0 ++ bes (x % 65536) 2 0 ++ bes (x % 256) 1 0 ++ r) = (stream (xs.take k) ++ bes x 4 0) ++ (bes (x % 65536) 2 0 ++ (bes (x % 256) 1 0 ++ r)) by simp, seg _ _ _ _ _ (by rw [List.length_append, hl, bes_len]) (by simp [bes_len])]
    exact val2 _ (by omega) (by omega)
  · rw [show stream (xs.take k) ++ (bes x 4 0 ++ bes (x % 65536) 2 0 ++ bes (x % 256) 1 0 ++ r) = (stream (xs.take k) ++ bes x 4 0 ++ bes (x % 65536) 2 0) ++ (bes (x % 256) 1 0 ++ r) by simp, seg _ _ _ _ _ (by rw [List.length_append, List.length_append, hl, bes_len, bes_len]) (by simp [bes_len])]
    exact val1 _ (by omega) (by omega)
def encW (x : Int) : List Value := [.int .u32 x]
def Yes (w : World) (e : Ending) (w' : World) : Prop := e = .returned (.bool true) ∧ Below w.heap.size w w'
/-- The bytes of a writer, whether there are any. -/
theorem bytes_any (g : Nat) (v : Value) (xs : List Int) (w : World) (h : IsW w g v xs) (hl : xs.length ≤ 140737488355328) : Calls Try.prog 42 #[.pointer (some ⟨g, 0, none⟩)] w (Fresh w xs) := by
  by_cases hx : xs = []
  · subst hx
    exact bytes_empty g v w h
  · exact bytes_calls g v xs w h hx hl
theorem row_source {w : World} {v : Value} {xs : List Int} (h : RowOf 5 1 encB w v xs) : ∃ A c, v = .slice A xs.length c ∧ (A = none → c = 0) ∧ Reps w A 1 encB xs := by
  obtain ⟨A, c, h1, h2, h3⟩ := h.reps encB_len
  refine ⟨A, c, h1, fun hA => ?_, h3⟩
  obtain ⟨h0, _⟩ | ⟨b, cap, cur, h0, _⟩ := h
  · rw [h1] at h0
    injection h0
  · rw [h1, hA] at h0
    injection h0 with h4
    cases h4
set_option maxRecDepth 100000 in
set_option maxHeartbeats 8000000 in
theorem back_walk (A : Option Addr) (c : Nat) (xs : List Int) (w : World) (hn : xs.length ≤ maxLen) (hw : ∀ x ∈ xs, 0 ≤ x ∧ x ≤ 4294967295) (hr : Reps w A 1 encW xs) :
    Calls Try.prog 9 #[.slice A xs.length c] w (Yes w) := by
  unfold maxLen at hn
  have R := Lib.hid hr
  have HW := Lib.hid hw
  clear hr hw
  go_enter Try.func9, Try.ntmps9
  go_wp2_with fail
  refine (known_calls _).mono ?_
  rintro e w1 ⟨rfl, b1⟩
  have W0 := Lib.hid (wr_new w w1 b1)
  clear b1
  generalize hgg : w1.heap.size = g at *
  have HG := Lib.hid hgg
  go_wp2
  clear hgg
  go_loopw [4] (fun i wr => ∃ (k : Nat) (v : Value), k ≤ xs.length ∧ k ≤ 200 ∧ i = .int .i64 k ∧ Hid (Wr w wr g v (stream (xs.take k)))) (fun i _ => 200 - (intOf i).toNat)
  case atStart => exact ⟨0, _, by omega, by omega, rfl, W0⟩
  case round =>
    obtain ⟨k, v, hk, hk2, rfl, hS⟩ := hrel
    clear W0
    by_cases hlt : k < xs.length ∧ k < 200
    · obtain ⟨hlt, hlt2⟩ := hlt
      obtain ⟨x, hx⟩ : ∃ x, xs[k]? = some x := ⟨_, List.getElem?_eq_getElem hlt⟩
      obtain ⟨ad, rfl, had, hc⟩ := (R.out.below hS.out.bel) k x hx
      have cell : ∀ W, Below w.heap.size w W → W.cell? (ad.add k) = some (.int .u32 x) := by
        intro W hW
        obtain ⟨ad', e', _, hc'⟩ := (R.out.below hW) k x hx
        cases e'
        have := hc' 0 _ rfl
        simpa using this
      have CELL := Lib.hid cell
      have c0 := cell wr hS.out.bel
      obtain ⟨x0, x1⟩ := HW.out x (List.mem_of_getElem? hx)
      have htk : xs.take (k + 1) = xs.take k ++ [x] := by rw [List.take_succ_eq_append_getElem hlt, (List.getElem?_eq_some_iff.1 hx).2]
      have HT : Hid (stream (xs.take (k + 1)) = stream (xs.take k) ++ bes x 4 0 ++ bes (x % 65536) 2 0 ++ bes (x % 256) 1 0) := Lib.hid (by rw [htk, stream_snoc])
      have HLN : Hid ((stream (xs.take k)).length ≤ 1400) := Lib.hid (by rw [stream_len, List.length_take]; omega)
      have q0 : (0 : Int) ≤ (k : Int) := by omega
      have q1 : (k : Int) < (xs.length : Int) := by omega
      have q2 : (k : Int) < 200 := by omega
      clear cell hc hx htk
      go_wp2_with fail
      refine (four_calls g v _ x _ hS.out.isW (by have := HLN.out; omega) x0 x1).mono ?_
      rintro e w3 ⟨rfl, v3, h3⟩
      have W3 := Lib.hid (hS.out.puts h3)
      have d0 := CELL.out w3 W3.out.bel
      clear h3 c0
      go_wp2_with fail
      refine (two_calls g v3 _ (x % 65536) _ W3.out.isW (by rw [List.length_append, bes_len]; have := HLN.out; omega) (by omega) (by omega)).mono ?_
      rintro e w4 ⟨rfl, v4, h4⟩
      have W4 := Lib.hid (W3.out.puts h4)
      have d1 := CELL.out w4 W4.out.bel
      clear h4 d0
      go_wp2_with fail
      refine (one_calls g v4 _ (x % 256) _ W4.out.isW (by rw [List.length_append, List.length_append, bes_len, bes_len]; have := HLN.out; omega) (by omega) (by omega)).mono ?_
      rintro e w5 ⟨rfl, v5, h5⟩
      have W5 := Lib.hid (W4.out.puts h5)
      clear h5 d1
      go_wp2
      go_roundw
      case rel => exact ⟨k + 1, v5, by omega, by omega, by go_num, Lib.hid (by rw [HT.out]; exact W5.out)⟩
      case measure => simp [intOf]; omega
    · obtain ⟨ys, hys⟩ : ∃ ys, ys = xs.take k := ⟨_, rfl⟩
      have hyl : ys.length = k := by rw [hys, List.length_take]; omega
      rw [← hys] at hS
      have HYS := Lib.hid hys
      have HEND := Lib.hid hlt
      have HLN : Hid ((stream ys).length = 7 * k) := Lib.hid (by rw [stream_len, hyl])
      have stop : ((k : Int) < (xs.length : Int)) → ¬ ((k : Int) < 200) := by intro h1 h2; exact hlt ⟨by omega, by omega⟩
      have hy1 : ys.length ≤ k := by omega
      have hy2 : k ≤ ys.length := by omega
      clear hys stop hyl
      by_cases hkn : k < xs.length
      · have hk200 : 200 ≤ k := by have := HEND.out; omega
        clear hlt
        have s1 : (k : Int) < (xs.length : Int) := by omega
        have s2 : ¬ (k : Int) < 200 := by omega
        go_wp2_with fail
        refine (bytes_any g v (stream ys) _ hS.out.isW (by rw [HLN.out]; omega)).mono ?_
        rintro e w3 ⟨v3, rfl, hr3, b3, _⟩
        obtain ⟨B, c3, rfl, hB0, hBR⟩ := row_source hr3
        have W3 := Lib.hid (hS.out.below b3)
        have HB0 := Lib.hid hB0
        have HBR := Lib.hid hBR
        clear hr3 b3 hB0 hBR
        go_wp2_with fail
        refine (newr_calls B c3 (stream ys) w3 HB0.out HBR.out (by rw [HLN.out]; omega)).mono ?_
        rintro e w4 ⟨g2, b2, cap2, rfl, hI, b4, hg2, _⟩
        have I0 : Hid (Rd w w4 g2 b2 cap2 (7 * 0) (stream ys)) := Lib.hid ⟨hI, by have := W3.out.bel.size; omega, below_then W3.out.bel W3.out.bel.size b4⟩
        clear hI b4 hg2
        go_wp2
        go_loopw [6] (fun i wj => ∃ j : Nat, j ≤ ys.length ∧ i = .int .i64 j ∧ Hid (Rd w wj g2 b2 cap2 (7 * j) (stream ys))) (fun i _ => ys.length - (intOf i).toNat)
        case atStart => exact ⟨0, by omega, rfl, I0⟩
        case round =>
          obtain ⟨j, hj, rfl, HI⟩ := hrel
          clear I0
          by_cases hjl : j < ys.length
          · obtain ⟨x, hx⟩ : ∃ x, ys[j]? = some x := ⟨_, List.getElem?_eq_getElem (by omega)⟩
            have hxx : xs[j]? = some x := by
              have h1 := HYS.out
              rw [h1, List.getElem?_take_of_lt (by omega)] at hx
              exact hx
            obtain ⟨x0, x1⟩ := HW.out x (List.mem_of_getElem? hxx)
            obtain ⟨p1, p2, p3⟩ := parts3 ys j x hx x0 x1
            have cell : ∀ W, Below w.heap.size w W → ∃ ad, A = some ad ∧ W.cell? (ad.add j) = some (.int .u32 x) := by
              intro W hW
              obtain ⟨ad', e', _, hc'⟩ := (R.out.below hW) j x hxx
              exact ⟨ad', e', by have := hc' 0 _ rfl; simpa using this⟩
            have CELL := Lib.hid cell
            have q0 : (0 : Int) ≤ (j : Int) := by omega
            have q1 : (j : Int) < (xs.length : Int) := by omega
            have q2 : (j : Int) < 200 := by omega
            have hsl1 : 7 * ys.length ≤ (stream ys).length := by rw [stream_len]; omega
            have F1 := Lib.hid (rfour_ok g2 b2 cap2 (7 * j) (stream ys) wr HI.out.isR (stream_bytes ys) (by omega))
            rw [p1] at F1
            clear cell hx hxx
            go_wp2_with fail
            refine F1.out.mono ?_
            rintro e wa ⟨rfl, ia, ka⟩
            have Ra := Lib.hid (HI.out.kept ia ka)
            have F2 := Lib.hid (rtwo_ok g2 b2 cap2 (7 * j + 4) (stream ys) wa ia (stream_bytes ys) (by omega))
            rw [p2] at F2
            clear ia ka
            go_wp2_with fail
            refine F2.out.mono ?_
            rintro e wb ⟨rfl, ib, kb⟩
            have Rb := Lib.hid (Ra.out.kept ib kb)
            have F3 := Lib.hid (rone_ok g2 b2 cap2 (7 * j + 6) (stream ys) wb ib (stream_bytes ys) (by omega))
            rw [p3] at F3
            clear ib kb
            go_wp2_with fail
            refine F3.out.mono ?_
            rintro e wc ⟨rfl, ic, kc⟩
            have Rc := Lib.hid (Rb.out.kept ic kc)
            obtain ⟨ad, rfl, d0⟩ := CELL.out wc Rc.out.bel
            clear ic kc p1 p2 p3 hsl1
            go_wp2
            go_roundw
            case rel => exact ⟨j + 1, by omega, by go_num, Lib.hid Rc.out⟩
            case measure => simp [intOf]; omega
          · obtain rfl : j = ys.length := by omega
            have t1 : (ys.length : Int) < (xs.length : Int) := by omega
            have t2 : ¬ (ys.length : Int) < 200 := by omega
            have J0 := HI.out.isR
            go_wp2_with fail
            refine (left_calls _ _ _ _ _ _ J0).mono ?_
            rintro e w8 ⟨rfl, b8⟩
            have e0 : ((stream ys).length : Int) - ((7 * ys.length : Nat) : Int) = 0 := by rw [stream_len]; omega
            rw [e0]
            have R8 := Lib.hid (HI.out.below b8)
            clear b8 e0 J0
            go_wp2_with fail
            refine (known_calls _).mono ?_
            rintro e w9 ⟨rfl, b9⟩
            have R9 := Lib.hid (R8.out.below b9)
            clear b9
            go_wp2
            go_ret
            exact ⟨rfl, R9.out.bel⟩
      · clear hlt
        have s1 : ¬ (k : Int) < (xs.length : Int) := by omega
        go_wp2_with fail
        refine (bytes_any g v (stream ys) _ hS.out.isW (by rw [HLN.out]; omega)).mono ?_
        rintro e w3 ⟨v3, rfl, hr3, b3, _⟩
        obtain ⟨B, c3, rfl, hB0, hBR⟩ := row_source hr3
        have W3 := Lib.hid (hS.out.below b3)
        have HB0 := Lib.hid hB0
        have HBR := Lib.hid hBR
        clear hr3 b3 hB0 hBR
        go_wp2_with fail
        refine (newr_calls B c3 (stream ys) w3 HB0.out HBR.out (by rw [HLN.out]; omega)).mono ?_
        rintro e w4 ⟨g2, b2, cap2, rfl, hI, b4, hg2, _⟩
        have I0 : Hid (Rd w w4 g2 b2 cap2 (7 * 0) (stream ys)) := Lib.hid ⟨hI, by have := W3.out.bel.size; omega, below_then W3.out.bel W3.out.bel.size b4⟩
        clear hI b4 hg2
        go_wp2
        go_loopw [6] (fun i wj => ∃ j : Nat, j ≤ ys.length ∧ i = .int .i64 j ∧ Hid (Rd w wj g2 b2 cap2 (7 * j) (stream ys))) (fun i _ => ys.length - (intOf i).toNat)
        case atStart => exact ⟨0, by omega, rfl, I0⟩
        case round =>
          obtain ⟨j, hj, rfl, HI⟩ := hrel
          clear I0
          by_cases hjl : j < ys.length
          · obtain ⟨x, hx⟩ : ∃ x, ys[j]? = some x := ⟨_, List.getElem?_eq_getElem (by omega)⟩
            have hxx : xs[j]? = some x := by
              have h1 := HYS.out
              rw [h1, List.getElem?_take_of_lt (by omega)] at hx
              exact hx
            obtain ⟨x0, x1⟩ := HW.out x (List.mem_of_getElem? hxx)
            obtain ⟨p1, p2, p3⟩ := parts3 ys j x hx x0 x1
            have cell : ∀ W, Below w.heap.size w W → ∃ ad, A = some ad ∧ W.cell? (ad.add j) = some (.int .u32 x) := by
              intro W hW
              obtain ⟨ad', e', _, hc'⟩ := (R.out.below hW) j x hxx
              exact ⟨ad', e', by have := hc' 0 _ rfl; simpa using this⟩
            have CELL := Lib.hid cell
            have q0 : (0 : Int) ≤ (j : Int) := by omega
            have q1 : (j : Int) < (xs.length : Int) := by omega
            have q2 : (j : Int) < 200 := by omega
            have hsl1 : 7 * ys.length ≤ (stream ys).length := by rw [stream_len]; omega
            have F1 := Lib.hid (rfour_ok g2 b2 cap2 (7 * j) (stream ys) wr HI.out.isR (stream_bytes ys) (by omega))
            rw [p1] at F1
            clear cell hx hxx
            go_wp2_with fail
            refine F1.out.mono ?_
            rintro e wa ⟨rfl, ia, ka⟩
            have Ra := Lib.hid (HI.out.kept ia ka)
            have F2 := Lib.hid (rtwo_ok g2 b2 cap2 (7 * j + 4) (stream ys) wa ia (stream_bytes ys) (by omega))
            rw [p2] at F2
            clear ia ka
            go_wp2_with fail
            refine F2.out.mono ?_
            rintro e wb ⟨rfl, ib, kb⟩
            have Rb := Lib.hid (Ra.out.kept ib kb)
            have F3 := Lib.hid (rone_ok g2 b2 cap2 (7 * j + 6) (stream ys) wb ib (stream_bytes ys) (by omega))
            rw [p3] at F3
            clear ib kb
            go_wp2_with fail
            refine F3.out.mono ?_
            rintro e wc ⟨rfl, ic, kc⟩
            have Rc := Lib.hid (Rb.out.kept ic kc)
            obtain ⟨ad, rfl, d0⟩ := CELL.out wc Rc.out.bel
            clear ic kc p1 p2 p3 hsl1
            go_wp2
            go_roundw
            case rel => exact ⟨j + 1, by omega, by go_num, Lib.hid Rc.out⟩
            case measure => simp [intOf]; omega
          · obtain rfl : j = ys.length := by omega
            have t1 : ¬ (ys.length : Int) < (xs.length : Int) := by omega
            have J0 := HI.out.isR
            go_wp2_with fail
            refine (left_calls _ _ _ _ _ _ J0).mono ?_
            rintro e w8 ⟨rfl, b8⟩
            have e0 : ((stream ys).length : Int) - ((7 * ys.length : Nat) : Int) = 0 := by rw [stream_len]; omega
            rw [e0]
            have R8 := Lib.hid (HI.out.below b8)
            clear b8 e0 J0
            go_wp2_with fail
            refine (known_calls _).mono ?_
            rintro e w9 ⟨rfl, b9⟩
            have R9 := Lib.hid (R8.out.below b9)
            clear b9
            go_wp2
            go_ret
            exact ⟨rfl, R9.out.bel⟩
end Go.Proofs.Ytfbjmaajdblbfaa.Oct
