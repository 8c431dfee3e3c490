/- Chapter 10 (dup): a block's span, as the program finds it and as the document does. -/
import Derived.Test.YtaokiocpfpdmkaaSeq
import Derived.Test.YtaokiocpfpdmkaaSpanAt
set_option linter.unusedSimpArgs false
set_option linter.unusedVariables false
attribute [local go_sem ↓] Go.wp_at_zero Go.wp_at_succ
namespace Go.Proofs.Ytaokiocpfpdmkaa.Dups
open Go.BigFrame Go.RowKit Go.OpenShut Go.Proofs.Ytaokiocpfpdmkaa.Aid Go.Proofs.Ytaokiocpfpdmkaa.Spans
structure Block where
  l : Int
  r : Int
deriving Inhabited, DecidableEq
def encK (b : Block) : List Value := [.int .u32 b.l, .int .u32 b.r]
def WfK (b : Block) : Prop := (0 ≤ b.l ∧ b.l < 4294967296) ∧ (0 ≤ b.r ∧ b.r < 4294967296)
def size (b : Block) : Int := (b.r - b.l) % 4294967296
theorem size_bd (b : Block) : 0 ≤ size b ∧ size b < 4294967296 := by unfold size; omega
theorem unw_bd (n s : Int) : unw n s = -1 ∨ (0 ≤ unw n s ∧ unw n s ≤ 4611686018427387904) := by
  unfold unw
  split
  · rename_i h
    exact .inr ((fits_iff _).1 h.2)
  · exact .inl rfl
/-- What the program finds, well formed or not. -/
def fsp (near : Int) (b : Block) : Span := ⟨if 0 ≤ unw near b.l then unw near b.l else 0, (if 0 ≤ unw near b.l then unw near b.l else 0) + size b⟩
def isF (near : Int) (b : Block) : Bool := decide (0 ≤ unw near b.l ∧ 1 ≤ size b ∧ size b ≤ 65536 ∧ unw near b.l + size b ≤ 4611686018427387904)
def PairV (s : Span) (b : Bool) : Value := .tuple #[.agg #[.int .i64 s.lo, .int .i64 s.hi], .bool b]
theorem fm_no (lo z : Int) : PairV ⟨lo, lo + z⟩ false = .tuple #[.agg #[.int .i64 lo, .int .i64 (lo + z)], .bool false] := rfl
set_option maxHeartbeats 1000000 in
theorem formed_calls (near : Int) (b : Block) (w : World) (hb : WfK b) : Calls Try.prog 50 #[.int .i64 near, .agg #[.int .u32 b.l, .int .u32 b.r]] w (Gives w (PairV (fsp near b) (isF near b))) := by
  obtain ⟨⟨l0, l1⟩, ⟨r0, r1⟩⟩ := hb
  have U := Lib.hid (fun w => unw_calls near b.l w l0 l1)
  have hs := size_bd b
  have hu := unw_bd near b.l
  have hsz : size b = (b.r - b.l) % 4294967296 := rfl
  have HI : Hid (isF near b = decide (0 ≤ unw near b.l ∧ 1 ≤ size b ∧ size b ≤ 65536 ∧ unw near b.l + size b ≤ 4611686018427387904)) := Lib.hid rfl
  have HF : Hid (fsp near b = ⟨if 0 ≤ unw near b.l then unw near b.l else 0, (if 0 ≤ unw near b.l then unw near b.l else 0) + size b⟩) := Lib.hid rfl
  generalize isF near b = ok at *
  generalize fsp near b = sp at *
  generalize unw near b.l = u at *
  rw [hsz] at hs HI HF
  obtain ⟨hs0, hs1⟩ := hs
  clear hsz
  rcases hu with rfl | ⟨hu0, hu1⟩
  · have h1 : ok = false := by rw [HI.out]; exact decide_eq_false (fun h => absurd h.1 (by decide))
    have h2 : sp = ⟨0, 0 + (b.r - b.l) % 4294967296⟩ := HF.out
    subst h1 h2
    simp only [show (if (0:Int) ≤ -1 then (-1 : Int) else 0) = 0 from rfl, show decide ((0:Int) ≤ -1) = false from rfl] at U
    clear HI HF
    go_enter Try.func50, Try.ntmps50
    go_wp2_with fail
    refine (U.out _).mono ?_
    rintro e w1 ⟨rfl, rfl⟩
    unfold Two
    go_wp2
    go_region
    all_goals
      go_wp2
      refine bodyPost_ret (v := .tuple #[.agg #[.int .i64 0, .int .i64 ((b.r - b.l) % 4294967296)], .bool false]) (by simp [results, Try.results50, go_sem]) rfl ⟨by simp [PairV], ?_⟩
      exact below_drew ((((Below.refl _ w).alloc (Nat.le_refl _) _).alloc (by simp) _).alloc (by simp; omega) _)
  · rw [if_pos hu0] at U HF
    rw [show decide (0 ≤ u) = true from decide_eq_true hu0] at U
    have h2 : sp = ⟨u, u + (b.r - b.l) % 4294967296⟩ := HF.out
    subst h2
    clear HF
    by_cases hz : 1 ≤ (b.r - b.l) % 4294967296 ∧ (b.r - b.l) % 4294967296 ≤ 65536
    · obtain ⟨hz1, hz2⟩ := hz
      have h1 : ok = decide (May ⟨u, u + (b.r - b.l) % 4294967296⟩) := by
        rw [HI.out, Bool.eq_iff_iff, decide_eq_true_iff, decide_eq_true_iff]
        generalize (b.r - b.l) % 4294967296 = z at *
        show _ ↔ (0 ≤ u ∧ u ≤ u + z ∧ u + z ≤ 4611686018427387904)
        omega
      have M := Lib.hid (may_calls ⟨u, u + (b.r - b.l) % 4294967296⟩)
      rw [← h1] at M
      clear HI h1
      go_enter Try.func50, Try.ntmps50
      go_wp2_with fail
      refine (U.out _).mono ?_
      rintro e w1 ⟨rfl, rfl⟩
      unfold Two
      go_wp2
      generalize (b.r - b.l) % 4294967296 = z at *
      have d1 : decide (1 ≤ z) = true := decide_eq_true hz1
      have d2 : decide (z ≤ 65536) = true := decide_eq_true hz2
      have B0 := Blk.new ((w.alloc (.cells #[.int .u32 b.l, .int .u32 b.r] 43)).alloc (.cells #[.int .i64 0, .int .i64 0] 26)) 26 #[.int .i64 u, .int .i64 (u + z)]
      have B1 := (Blk.new (w.alloc (.cells #[.int .u32 b.l, .int .u32 b.r] 43)) 26 #[.int .i64 0, .int .i64 0]).alloc (.cells #[.int .i64 u, .int .i64 (u + z)] 26)
      have HB := Lib.hid ((((Below.refl _ w).alloc (Nat.le_refl _) (.cells #[.int .u32 b.l, .int .u32 b.r] 43)).alloc (by simp) (.cells #[.int .i64 0, .int .i64 0] 26)).alloc (by simp; omega) (.cells #[.int .i64 u, .int .i64 (u + z)] 26))
      simp only [World.size_alloc] at B0 B1
      generalize ((w.alloc (.cells #[.int .u32 b.l, .int .u32 b.r] 43)).alloc (.cells #[.int .i64 0, .int .i64 0] 26)).alloc (.cells #[.int .i64 u, .int .i64 (u + z)] 26) = W at *
      have c0 := B0.cell 0
      have c1 := B0.cell 1
      have e0 := B1.cell 0
      have e1 := B1.cell 1
      have f0 := B1.frozen
      have s0 := B0.lt
      have s1 := B1.lt
      clear B0 B1
      go_region_held3 (fun w' => w'.cell? ⟨w.heap.size + 1 + 1, 0, Option.none⟩ = some (.int .i64 u) ∧ w'.cell? ⟨w.heap.size + 1 + 1, 1, Option.none⟩ = some (.int .i64 (u + z))) (go_keep) ((go_at_call 69; refine (M.out _).mono ?_; rintro e w1 ⟨rfl, hb⟩; obtain ⟨hc, hf⟩ := bcell hb; have y0 := (hc _ 0 s0).trans c0; have y1 := (hc _ 1 s0).trans c1; have x0 := (hc _ 0 s1).trans e0; have x1 := (hc _ 1 s1).trans e1; have x2 := (hf _ 0 s1).trans (f0 0); have x3 := (hf _ 1 s1).trans (f0 1); have HB1 := Lib.hid hb; clear hb hc hf))
      all_goals
        go_wp2
        refine bodyPost_ret (v := .tuple #[.agg #[.int .i64 u, .int .i64 (u + z)], .bool ok]) (by simp [results, Try.results50, go_sem, x0, x1, x2, x3]) rfl ⟨by simp [PairV], ?_⟩
        exact ((below_then (below_drew HB.out) HB.out.size HB1.out).setCell (by simp) _).setCell (by simp) _
    · have h1 : ok = false := by rw [HI.out]; exact decide_eq_false (fun h => hz ⟨h.2.1, h.2.2.1⟩)
      subst h1
      clear HI
      have hzz : ¬ 1 ≤ (b.r - b.l) % 4294967296 ∨ (1 ≤ (b.r - b.l) % 4294967296 ∧ ¬ (b.r - b.l) % 4294967296 ≤ 65536) := by omega
      clear hz
      rcases hzz with hz | ⟨hz, hz2⟩
      · have d1 : decide (1 ≤ (b.r - b.l) % 4294967296) = false := decide_eq_false hz
        clear hz
        go_enter Try.func50, Try.ntmps50
        go_wp2_with fail
        refine (U.out _).mono ?_
        rintro e w1 ⟨rfl, rfl⟩
        unfold Two
        go_wp2
        go_region
        all_goals
          go_wp2
          refine bodyPost_ret (v := .tuple #[.agg #[.int .i64 u, .int .i64 (u + (b.r - b.l) % 4294967296)], .bool false]) (by simp [results, Try.results50, go_sem]) rfl ⟨by simp [PairV], ?_⟩
          exact below_drew ((((Below.refl _ w).alloc (Nat.le_refl _) _).alloc (by simp) _).alloc (by simp; omega) _)
      · have d1 : decide (1 ≤ (b.r - b.l) % 4294967296) = true := decide_eq_true hz
        have d2 : decide ((b.r - b.l) % 4294967296 ≤ 65536) = false := decide_eq_false hz2
        clear hz hz2
        go_enter Try.func50, Try.ntmps50
        go_wp2_with fail
        refine (U.out _).mono ?_
        rintro e w1 ⟨rfl, rfl⟩
        unfold Two
        go_wp2
        go_region
        all_goals
          go_wp2
          refine bodyPost_ret (v := .tuple #[.agg #[.int .i64 u, .int .i64 (u + (b.r - b.l) % 4294967296)], .bool false]) (by simp [results, Try.results50, go_sem]) rfl ⟨by simp [PairV], ?_⟩
          exact below_drew ((((Below.refl _ w).alloc (Nat.le_refl _) _).alloc (by simp) _).alloc (by simp; omega) _)
theorem size_ref (b : Block) : (b.r - b.l) % 4294967296 = size b := rfl
/-- What the document finds. -/
def rsp (near : Int) (b : Block) : Span := if isF near b = true then fsp near b else ⟨0, 0⟩
def Agg2 (s : Span) : Value := .agg #[.int .i64 s.lo, .int .i64 s.hi]
set_option maxHeartbeats 1000000 in
theorem formed_ref (near : Int) (b : Block) (w : World) (hb : WfK b) : Calls Try.prog 53 #[.int .i64 near, .agg #[.int .u32 b.l, .int .u32 b.r]] w (Gives w (Agg2 (rsp near b))) := by
  obtain ⟨⟨l0, l1⟩, ⟨r0, r1⟩⟩ := hb
  have U := Lib.hid (fun w => unw_ref near b.l w l0 l1)
  have M := Lib.hid (mod_ref (b.r - b.l))
  have hs := size_bd b
  have hu := unw_bd near b.l
  have HI : Hid (isF near b = decide (0 ≤ unw near b.l ∧ 1 ≤ size b ∧ size b ≤ 65536 ∧ unw near b.l + size b ≤ 4611686018427387904)) := Lib.hid rfl
  have HF : Hid (fsp near b = ⟨if 0 ≤ unw near b.l then unw near b.l else 0, (if 0 ≤ unw near b.l then unw near b.l else 0) + size b⟩) := Lib.hid rfl
  unfold rsp
  rw [size_ref] at M
  generalize isF near b = ok at *
  generalize fsp near b = sp at *
  generalize unw near b.l = u at *
  generalize size b = z at *
  obtain ⟨hs0, hs1⟩ := hs
  have cases : (u < 0 ∧ ok = false) ∨ (0 ≤ u ∧ u ≤ 4611686018427387904 ∧ ((z < 1 ∧ ok = false) ∨ (1 ≤ z ∧ 65536 < z ∧ ok = false) ∨ (1 ≤ z ∧ z ≤ 65536 ∧ 4611686018427387904 - z < u ∧ ok = false) ∨ (1 ≤ z ∧ z ≤ 65536 ∧ u ≤ 4611686018427387904 - z ∧ ok = true ∧ sp = ⟨u, u + z⟩))) := by
    have hi := HI.out
    have hf := HF.out
    cases ok with
    | true =>
      have h := of_decide_eq_true hi.symm
      rw [if_pos h.1] at hf
      exact .inr ⟨h.1, by omega, .inr (.inr (.inr ⟨h.2.1, h.2.2.1, by omega, rfl, hf⟩))⟩
    | false =>
      have h := of_decide_eq_false hi.symm
      simp only [and_true, Bool.false_eq_true, false_and, and_false, or_false]
      omega
  clear HI HF hu
  have go : ∀ (x y : Int), True := fun _ _ => trivial
  clear go
  rcases cases with ⟨h1, rfl⟩ | ⟨h1, h2, ⟨h3, rfl⟩ | ⟨h3, h4, rfl⟩ | ⟨h3, h4, h5, rfl⟩ | ⟨h3, h4, h5, rfl, rfl⟩⟩
  all_goals
    simp only [Bool.false_eq_true, if_false, if_true]
    go_enter Try.func53, Try.ntmps53
    go_wp2_with fail
    refine (M.out _).mono ?_
    rintro e w1 ⟨rfl, rfl⟩
    go_wp2_with fail
    refine (U.out _).mono ?_
    rintro e w1 ⟨rfl, rfl⟩
    go_wp2
  rotate_left 4
  · refine bodyPost_ret (v := .agg #[.int .i64 u, .int .i64 (u + z)]) (by simp [results, Try.results53, go_sem]) rfl ⟨by simp [Agg2], ?_⟩
    exact ((Below.refl _ w).alloc (Nat.le_refl _) _).alloc (by simp) _
  all_goals
    refine bodyPost_ret (v := .agg #[.int .i64 0, .int .i64 0]) (by simp [results, Try.results53, go_sem]) rfl ⟨by simp [Agg2], ?_⟩
    exact ((Below.refl _ w).alloc (Nat.le_refl _) _).alloc (by simp) _
end Go.Proofs.Ytaokiocpfpdmkaa.Dups
