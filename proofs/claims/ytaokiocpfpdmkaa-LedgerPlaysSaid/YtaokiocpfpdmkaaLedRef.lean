/- Chapter 19 (ledger): the document's ledger: Cut, Undo, Again. -/
import Derived.Test.YtaokiocpfpdmkaaLedLaws
set_option linter.unusedSimpArgs false
set_option linter.unusedVariables false
attribute [local go_sem ↓] Go.wp_at_zero Go.wp_at_succ
namespace Go.Proofs.Ytaokiocpfpdmkaa.Led
open Go.BigFrame Go.RowKit Go.OpenShut Go.Proofs.Ytaokiocpfpdmkaa.Aid Go.Proofs.Ytaokiocpfpdmkaa.Spans
/-- A ledger by value. -/
def byVal (L : Led) (v : Value) : Value := .agg #[.bool L.opn, .int .i64 L.cwnd, .int .i64 L.thresh, v, .bool L.spilt]
/-- What comes of a call: a ledger by value, and a word. -/
def Val (w : World) (L : Led) (v r : Value) (e : Ending) (w' : World) : Prop := e = .returned (.tuple #[byVal L v, r]) ∧ Below w.heap.size w w'
theorem rcut_no (L : Led) (A : Option Addr) (n c : Nat) (a b : Int) (w : World) (ho : L.opn = true) : Calls Try.prog 64 #[byVal L (.slice A n c), .int .i64 a, .int .i64 b] w (Val w L (.slice A n c) (.bool false)) := by
  obtain ⟨o, cw, th, xs, sp⟩ := L
  simp only at ho
  subst ho
  unfold byVal
  go_enter Try.func64, Try.ntmps64
  go_wp2
  refine bodyPost_ret (v := .tuple #[byVal ⟨true, cw, th, xs, sp⟩ (.slice A n c), .bool false]) (by simp [results, Try.results64, go_sem, byVal]; done) rfl ⟨rfl, ?_⟩
  exact ((Below.refl _ w).alloc (Nat.le_refl _) _).alloc (by simp) _
theorem rcut_yes (L : Led) (A : Option Addr) (n c : Nat) (a b : Int) (w : World) (ho : L.opn = false) : Calls Try.prog 64 #[byVal L (.slice A n c), .int .i64 a, .int .i64 b] w (Val w ⟨true, a, b, L.list, L.spilt⟩ (.slice A n c) (.bool true)) := by
  obtain ⟨o, cw, th, xs, sp⟩ := L
  simp only at ho
  subst ho
  unfold byVal
  go_enter Try.func64, Try.ntmps64
  go_wp2
  refine bodyPost_ret (v := .tuple #[byVal ⟨true, a, b, xs, sp⟩ (.slice A n c), .bool true]) (by simp [results, Try.results64, go_sem, byVal]; done) rfl ⟨rfl, ?_⟩
  exact ((Below.refl _ w).alloc (Nat.le_refl _) _).alloc (by simp) _
theorem rundo_no (L : Led) (A : Option Addr) (c : Nat) (f : Bool) (w : World) (hl : L.list.length ≤ 256) (ho : L.opn = false ∨ (f = false ∧ (L.list ≠ [] ∨ L.spilt = true))) : Calls Try.prog 67 #[byVal L (.slice A L.list.length c), .bool f] w (Val w L (.slice A L.list.length c) (.bool false)) := by
  obtain ⟨o, cw, th, xs, sp⟩ := L
  simp only at ho hl ⊢
  have h1 : o = false ∨ (o = true ∧ f = false ∧ 0 < xs.length) ∨ (o = true ∧ f = false ∧ xs.length = 0 ∧ sp = true) := by
    rcases ho with ho | ⟨rfl, ho⟩
    · exact .inl ho
    · cases o
      · exact .inl rfl
      · rcases Nat.eq_zero_or_pos xs.length with h | h
        · refine .inr (.inr ⟨rfl, rfl, h, ho.resolve_left (fun c => c (List.eq_nil_of_length_eq_zero h))⟩)
        · exact .inr (.inl ⟨rfl, rfl, h⟩)
  unfold byVal
  generalize hn : xs.length = n at *
  have HN := Lib.hid hn
  clear ho hn
  rcases h1 with rfl | ⟨rfl, rfl, h⟩ | ⟨rfl, rfl, rfl, rfl⟩
  · go_enter Try.func67, Try.ntmps67
    go_wp2
    refine bodyPost_ret (v := .tuple #[byVal ⟨false, cw, th, xs, sp⟩ (.slice A n c), .bool false]) (by simp [results, Try.results67, go_sem, byVal]; done) rfl ⟨rfl, ?_⟩
    exact ((Below.refl _ w).alloc (Nat.le_refl _) _).alloc (by simp) _
  · have hq : (0 : Int) < (n : Int) := by omega
    go_enter Try.func67, Try.ntmps67
    go_wp2
    refine bodyPost_ret (v := .tuple #[byVal ⟨true, cw, th, xs, sp⟩ (.slice A n c), .bool false]) (by simp [results, Try.results67, go_sem, byVal]; done) rfl ⟨rfl, ?_⟩
    exact ((Below.refl _ w).alloc (Nat.le_refl _) _).alloc (by simp) _
  · go_enter Try.func67, Try.ntmps67
    go_wp2
    refine bodyPost_ret (v := .tuple #[byVal ⟨true, cw, th, xs, true⟩ (.slice A 0 c), .bool false]) (by simp [results, Try.results67, go_sem, byVal]; done) rfl ⟨rfl, ?_⟩
    exact ((Below.refl _ w).alloc (Nat.le_refl _) _).alloc (by simp) _
theorem rundo_yes (L : Led) (A : Option Addr) (c : Nat) (f : Bool) (w : World) (hl : L.list.length ≤ 256) (ho : L.opn = true) (hf : f = true ∨ (L.list = [] ∧ L.spilt = false)) : Calls Try.prog 67 #[byVal L (.slice A L.list.length c), .bool f] w (Val w ⟨false, L.cwnd, L.thresh, L.list, L.spilt⟩ (.slice A L.list.length c) (.bool true)) := by
  obtain ⟨o, cw, th, xs, sp⟩ := L
  simp only at ho hl hf ⊢
  have h1 : f = true ∨ (f = false ∧ xs.length = 0 ∧ sp = false) := by
    cases f
    · obtain ⟨rfl, rfl⟩ := hf.resolve_left (by simp)
      exact .inr ⟨rfl, rfl, rfl⟩
    · exact .inl rfl
  subst ho
  unfold byVal
  generalize hn : xs.length = n at *
  have HN := Lib.hid hn
  clear hf hn
  rcases h1 with rfl | ⟨rfl, rfl, rfl⟩
  · go_enter Try.func67, Try.ntmps67
    go_wp2
    refine bodyPost_ret (v := .tuple #[byVal ⟨false, cw, th, xs, sp⟩ (.slice A n c), .bool true]) (by simp [results, Try.results67, go_sem, byVal]; done) rfl ⟨rfl, ?_⟩
    exact ((Below.refl _ w).alloc (Nat.le_refl _) _).alloc (by simp) _
  · go_enter Try.func67, Try.ntmps67
    go_wp2
    refine bodyPost_ret (v := .tuple #[byVal ⟨false, cw, th, xs, false⟩ (.slice A 0 c), .bool true]) (by simp [results, Try.results67, go_sem, byVal]; done) rfl ⟨rfl, ?_⟩
    exact ((Below.refl _ w).alloc (Nat.le_refl _) _).alloc (by simp) _
end Go.Proofs.Ytaokiocpfpdmkaa.Led
