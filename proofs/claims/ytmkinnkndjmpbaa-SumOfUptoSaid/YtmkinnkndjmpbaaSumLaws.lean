/- The walks of the laws of chapter 3 (sum): whatever the input, the call answers true and turns nothing that was there. -/
import Derived.Test.YtmkinnkndjmpbaaSumFns
namespace Go.Proofs.Ytmkinnkndjmpbaa.Sum
open Go.RowKit Go.Shelf Go.Proofs.Ytmkinnkndjmpbaa.Aid Go.Proofs.Ytmkinnkndjmpbaa.SumPlain
def Yes (w : World) (e : Ending) (w' : World) : Prop := e = .returned (.bool true) ∧ Below w.heap.size w w'
set_option maxRecDepth 100000 in
set_option maxHeartbeats 2000000 in
theorem parts_walk (A B : Option Addr) (c d : Nat) (xs ys : List Int) (w : World) (h : In w A xs) (k : In w B ys) :
    Calls Try.prog 10 #[.slice A xs.length c, .slice B ys.length d] w (Yes w) := by
  have hl := h.len
  have kl := k.len
  have H := Lib.hid h
  have K := Lib.hid k
  clear h k
  by_cases he : xs.length % 2 = 0
  · have hd : ((xs.length : Int) % 2 != 0) = false := by simp; omega
    have hs := sum_parts xs ys H.out.bytes K.out.bytes he
    have HS := Lib.hid hs
    have s1 := sum_bd xs
    have s2 := sum_bd ys
    clear hs
    by_cases ho : ys.length % 2 = 0
    · have hd2 : ((ys.length : Int) % 2 != 0) = false := by simp; omega
      have hs2 : Hid (sumOf (ys ++ xs) = sumOf (xs ++ ys)) := Lib.hid (by rw [sum_parts ys xs K.out.bytes H.out.bytes ho, HS.out, canon_comm])
      go_enter Try.func10, Try.ntmps10
      go_wp2_with fail
      refine (known_calls _).mono ?_
      rintro e w1 ⟨rfl, b1⟩
      have B1 := Lib.hid b1
      clear b1
      go_wp2_with fail
      refine (of_one A c xs w1 (H.out.below B1.out)).mono ?_
      rintro e w2 ⟨rfl, b2⟩
      have B2 := Lib.hid (below_then B1.out B1.out.size b2)
      clear b2
      go_wp2_with fail
      refine (of_one B d ys w2 (K.out.below B2.out)).mono ?_
      rintro e w3 ⟨rfl, b3⟩
      have B3 := Lib.hid (below_then B2.out B2.out.size b3)
      clear b3
      go_wp2_with fail
      refine (add_calls _ _ w3 s1 s2).mono ?_
      rintro e w4 ⟨rfl, rfl⟩
      rw [← HS.out]
      go_wp2_with fail
      refine (of_two A B c d xs ys w3 (H.out.below B3.out) (K.out.below B3.out)).mono ?_
      rintro e w4 ⟨rfl, b4⟩
      have B4 := Lib.hid (below_then B3.out B3.out.size b4)
      clear b4
      go_wp2_with fail
      refine (of_two B A d c ys xs w4 (K.out.below B4.out) (H.out.below B4.out)).mono ?_
      rintro e w5 ⟨rfl, b5⟩
      have B5 := Lib.hid (below_then B4.out B4.out.size b5)
      clear b5
      rw [hs2.out]
      go_wp2_with fail
      refine (known_calls _).mono ?_
      rintro e w6 ⟨rfl, b6⟩
      go_wp2
      go_ret
      exact ⟨rfl, below_then B5.out B5.out.size b6⟩
    · have hd2 : ((ys.length : Int) % 2 != 0) = true := by simp; omega
      go_enter Try.func10, Try.ntmps10
      go_wp2_with fail
      refine (known_calls _).mono ?_
      rintro e w1 ⟨rfl, b1⟩
      have B1 := Lib.hid b1
      clear b1
      go_wp2_with fail
      refine (of_one A c xs w1 (H.out.below B1.out)).mono ?_
      rintro e w2 ⟨rfl, b2⟩
      have B2 := Lib.hid (below_then B1.out B1.out.size b2)
      clear b2
      go_wp2_with fail
      refine (of_one B d ys w2 (K.out.below B2.out)).mono ?_
      rintro e w3 ⟨rfl, b3⟩
      have B3 := Lib.hid (below_then B2.out B2.out.size b3)
      clear b3
      go_wp2_with fail
      refine (add_calls _ _ w3 s1 s2).mono ?_
      rintro e w4 ⟨rfl, rfl⟩
      rw [← HS.out]
      go_wp2_with fail
      refine (of_two A B c d xs ys w3 (H.out.below B3.out) (K.out.below B3.out)).mono ?_
      rintro e w4 ⟨rfl, b4⟩
      have B4 := Lib.hid (below_then B3.out B3.out.size b4)
      clear b4
      go_wp2_with fail
      refine (known_calls _).mono ?_
      rintro e w6 ⟨rfl, b6⟩
      go_wp2
      go_ret
      exact ⟨rfl, below_then B4.out B4.out.size b6⟩
  · have hd : ((xs.length : Int) % 2 != 0) = true := by simp; omega
    go_enter Try.func10, Try.ntmps10
    go_wp2_with fail
    refine (known_calls _).mono ?_
    rintro e w1 ⟨rfl, b1⟩
    go_wp2_with fail
    refine (known_calls _).mono ?_
    rintro e w2 ⟨rfl, b2⟩
    go_wp2
    go_ret
    exact ⟨rfl, below_then b1 b1.size b2⟩
end Go.Proofs.Ytmkinnkndjmpbaa.Sum
