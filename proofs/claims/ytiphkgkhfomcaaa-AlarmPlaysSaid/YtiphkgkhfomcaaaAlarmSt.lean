/- Chapter 13 (alarm): each alarm rings once, none too late: what the calls make of the law's state. -/
import Derived.Test.YtiphkgkhfomcaaaAlarmKnown
import Derived.Test.YtiphkgkhfomcaaaRings2
set_option linter.unusedSimpArgs false
set_option linter.unusedVariables false
attribute [local go_sem ↓] Go.wp_at_zero Go.wp_at_succ
namespace Go.Proofs.Ytiphkgkhfomcaaa.Alarm
open Go.BigFrame Go.RowKit Go.OpenShut Go.Proofs.Ytiphkgkhfomcaaa.Aid Go.Proofs.Ytiphkgkhfomcaaa.DMap Go.Proofs.Ytiphkgkhfomcaaa.Heap
structure OpV where
  kind : Int
  name : Int
  n : Int
deriving Inhabited
def encO (o : OpV) : List Value := [.int .u8 o.kind, .int .i64 o.name, .int .i64 o.n]
def OpOk (o : OpV) : Prop := 0 ≤ o.kind ∧ o.kind ≤ 255 ∧ Fits o.name ∧ Fits o.n
theorem add_block (ad : Addr) (n : Nat) : (ad.add n).block = ad.block := by unfold Addr.add; split <;> rfl
theorem add_next (ad : Addr) (n j : Nat) (hj : 0 < j) : ad.add (n + j) = ⟨(ad.add n).block, (ad.add n).off + j, Option.none⟩ := by
  rw [← Go.Addr.add_add]
  unfold Addr.add
  split <;> simp_all
theorem rops {w : World} {B : Option Addr} {ops : List OpV} (h : Reps w B 3 encO ops) (k : Nat) (o : OpV) (hk : ops[k]? = some o) : ∃ ad : Addr, B = some ad ∧ ad.block < w.heap.size ∧ w.cell? (ad.add (k * 3)) = some (.int .u8 o.kind) ∧ w.cell? ⟨(ad.add (k * 3)).block, (ad.add (k * 3)).off + 1, Option.none⟩ = some (.int .i64 o.name) ∧ w.cell? ⟨(ad.add (k * 3)).block, (ad.add (k * 3)).off + 2, Option.none⟩ = some (.int .i64 o.n) := by
  obtain ⟨ad, e, hl, hc⟩ := h k o hk
  exact ⟨ad, e, hl, by simpa using hc 0 _ rfl, (add_next ad (k * 3) 1 (by omega)) ▸ hc 1 _ rfl, (add_next ad (k * 3) 2 (by omega)) ▸ hc 2 _ rfl⟩
/-- The law's own list of times. -/
def arr (T : List Int) : Array Value := (T.map (fun a => Value.int .i64 a)).toArray
theorem arr_set (T : List Int) (k : Nat) (a : Int) : (arr T).setIfInBounds k (.int .i64 a) = arr (T.set k a) := by simp [arr, List.map_set]
theorem arr_get (T : List Int) (k : Nat) (h : k < T.length) : (arr T)[k]? = some (.int .i64 (at_ T k)) := by
  simp [arr, at_, List.getD_eq_getElem?_getD, h]
/-- The law's state. -/
structure St (w wr : World) (C G n : Nat) (c : Ck) (T : List Int) : Prop where
  clk : HasC w wr C c
  box : Blk wr G 28 (arr T)
  far : w.heap.size ≤ G
  apart : ∃ B, Clk wr B C c ∧ (∀ k, B k → w.heap.size ≤ k) ∧ ¬ B G
  inv : Inv n c.now c.A T
theorem St.below {w wr w2 : World} {C G n : Nat} {c : Ck} {T : List Int} (h : St w wr C G n c T) (hb : Below wr.heap.size wr w2) : St w w2 C G n c T := by
  obtain ⟨B, h1, h2, h3⟩ := h.apart
  exact ⟨h.clk.below hb, h.box.below hb h.box.lt, h.far, ⟨B, h1.below hb, h2, h3⟩, h.inv⟩
theorem St.turn {w wr w2 : World} {C G n : Nat} {c c' : Ck} {T : List Int} {B : Nat → Prop} (h : St w wr C G n c T) (h1 : Clk wr B C c) (h2 : ∀ k, B k → w.heap.size ≤ k) (h3 : ¬ B G) {B' : Nat → Prop} (h4 : Clk w2 B' C c') (h5 : ∀ k, B' k → B k ∨ wr.heap.size ≤ k) (h6 : Kp B wr w2) (hi : Inv n c'.now c'.A T) : St w w2 C G n c' T := by
  have hG := h.box.lt
  have hs := h.clk.bel.size
  have h7 : ∀ k, B' k → w.heap.size ≤ k := fun k hk => (h5 k hk).elim (h2 k) (fun e => Nat.le_trans hs e)
  exact ⟨⟨B', h4, h7, kp_below h.clk.bel h2 h6⟩, (h6.block G hG h3).trans h.box, h.far, ⟨B', h4, h7, fun e => (h5 G e).elim h3 (fun e => by omega)⟩, hi⟩
theorem St.write {w wr : World} {C G n : Nat} {c : Ck} {T : List Int} (h : St w wr C G n c T) (k : Nat) (a : Int) (hi : Inv n c.now c.A (T.set k a)) : St w (wr.setCell ⟨G, k, Option.none⟩ (.int .i64 a)) C G n c (T.set k a) := by
  obtain ⟨B, h1, h2, h3⟩ := h.apart
  have hc : Clk (wr.setCell ⟨G, k, Option.none⟩ (.int .i64 a)) B C c := h1.same (fun j hj => Below.heap_setCell wr _ _ j (fun e => h3 (by have e : j = G := e; rw [← e]; exact hj)))
  refine ⟨⟨B, hc, h2, h.clk.bel.setCell (p := ⟨G, k, Option.none⟩) h.far _⟩, (h.box.set_ k _).eq (arr_set T k a), h.far, ⟨B, hc, h2, h3⟩, hi⟩
theorem set_st {w wr : World} {C G n : Nat} {c : Ck} {T : List Int} (h : St w wr C G n c T) (o : Obj) (nm : Nat) (a : Int) (hn : nm < n) (ha : c.now ≤ a) (hb : a ≤ 4611686018427387904) : Calls Try.prog 13 #[.pointer (some ⟨C, 0, Option.none⟩), .int .i64 nm, .int .i64 a] (wr.alloc o) (fun e w' => e = .returned (.int .i64 0) ∧ St w (w'.setCell ⟨G, nm, Option.none⟩ (.int .i64 a)) C G n ⟨c.now, c.A.set nm a⟩ (T.set nm a) ∧ Blk w' G 28 (arr T) ∧ w'.heap[wr.heap.size]? = some o) := by
  obtain ⟨B, h1, h2, h3⟩ := h.apart
  have hb0 : Below wr.heap.size wr (wr.alloc o) := (Below.refl _ wr).alloc (Nat.le_refl _) _
  have hnB : ¬ B wr.heap.size := fun e => by have := h1.lt _ e; omega
  refine (set_calls B C c nm a (wr.alloc o) (h1.below hb0) (by rw [h.inv.len]; exact hn) ha hb).mono ?_
  rintro e w' ⟨he, B', h4, h5, h6⟩
  have hi := h.inv.set_ hn ha
  have hG := h.box.lt
  have hs := h.clk.bel.size
  have hsz : (wr.alloc o).heap.size = wr.heap.size + 1 := World.size_alloc _ _
  have h7 : ∀ k, B' k → w.heap.size ≤ k := fun k hk => (h5 k hk).elim (h2 k) (fun e => by omega)
  have h8 : ¬ B' G := fun e => (h5 G e).elim h3 (fun e => by omega)
  have hbx : Blk w' G 28 (arr T) := (h6.block G (by omega) h3).trans (h.box.alloc o)
  have hc : Clk (w'.setCell ⟨G, nm, Option.none⟩ (.int .i64 a)) B' C ⟨c.now, c.A.set nm a⟩ := h4.same (fun j hj => Below.heap_setCell w' _ _ j (fun e => h8 (by have e : j = G := e; rw [← e]; exact hj)))
  exact ⟨he, ⟨⟨B', hc, h7, (kp_below (below_then h.clk.bel h.clk.bel.size hb0) h2 h6).setCell (p := ⟨G, nm, Option.none⟩) h.far _⟩, (hbx.set_ nm _).eq (arr_set T nm a), h.far, ⟨B', hc, h7, h8⟩, hi⟩, hbx, (h6.block _ (by omega) hnB).trans (heap_alloc_new wr o)⟩
theorem set_st_bad {w wr : World} {C G n : Nat} {c : Ck} {T : List Int} (h : St w wr C G n c T) (nm a : Int) (hbad : (nm < 0 ∨ (n : Int) ≤ nm) ∨ a < c.now ∨ 4611686018427387904 < a) : Calls Try.prog 13 #[.pointer (some ⟨C, 0, Option.none⟩), .int .i64 nm, .int .i64 a] wr (fun e w' => (e = .returned (.int .i64 8) ∨ e = .returned (.int .i64 3)) ∧ wr = w') := by
  obtain ⟨B, h1, h2, h3⟩ := h.apart
  by_cases hk : nm < 0 ∨ (n : Int) ≤ nm
  · exact (set_kind B C c nm a wr h1 (by rw [h.inv.len]; exact hk)).mono fun e w' ⟨he, hw⟩ => ⟨.inl he, hw⟩
  · obtain ⟨q, rfl⟩ := Int.eq_ofNat_of_zero_le (show 0 ≤ nm by omega)
    exact (set_range B C c q a wr h1 (by rw [h.inv.len]; omega) (hbad.resolve_left hk)).mono fun e w' ⟨he, hw⟩ => ⟨.inr he, hw⟩
theorem stop_st {w wr : World} {C G n : Nat} {c : Ck} {T : List Int} (h : St w wr C G n c T) (nm : Int) (hf : Fits nm) : Calls Try.prog 14 #[.pointer (some ⟨C, 0, Option.none⟩), .int .i64 nm] wr (fun e w' => (∃ v, e = .returned v) ∧ ∃ A', St w w' C G n ⟨c.now, A'⟩ T) := by
  have hh := h
  obtain ⟨B, h1, h2, h3⟩ := h.apart
  by_cases hn : 0 ≤ nm ∧ 0 ≤ at_ c.A nm.toNat
  · obtain ⟨k, rfl⟩ := Int.eq_ofNat_of_zero_le hn.1
    exact (stop_on B C c k wr h1 (by simpa using hn.2)).mono fun e w' ⟨he, B', h4, h5, h6⟩ => ⟨⟨_, he⟩, _, h.turn h1 h2 h3 h4 h5 h6 (h.inv.off k)⟩
  · exact (stop_off B C c nm wr h1 hf (by omega)).mono fun e w' ⟨he, hb⟩ => ⟨⟨_, he⟩, c.A, hh.below hb⟩
theorem advance_st {w wr : World} {C G n : Nat} {c : Ck} {T : List Int} (h : St w wr C G n c T) (dt : Int) (h0 : 0 ≤ dt) (hd : dt ≤ 4611686018427387904 - c.now) : Calls Try.prog 15 #[.pointer (some ⟨C, 0, Option.none⟩), .int .i64 dt] wr (fun e w' => ∃ v, e = .returned (.tuple #[v, .int .i64 0]) ∧ St w w' C G n ⟨c.now + dt, (adv (c.now + dt) c.A.length c.A).2⟩ T ∧ RowOf 3 1 encI w' v (adv (c.now + dt) c.A.length c.A).1) := by
  obtain ⟨B, h1, h2, h3⟩ := h.apart
  exact (advance_calls B C c dt wr h1 h0 hd).mono fun e w' ⟨v, B', he, a1, a2, a3, a4, a5⟩ => ⟨v, he, h.turn h1 h2 h3 a1 a4 a5 (h.inv.adv _), a2⟩
theorem advance_st_bad {w wr : World} {C G n : Nat} {c : Ck} {T : List Int} (h : St w wr C G n c T) (dt : Int) (hd : dt < 0 ∨ 4611686018427387904 - c.now < dt) : Calls Try.prog 15 #[.pointer (some ⟨C, 0, Option.none⟩), .int .i64 dt] wr (Same wr (.tuple #[nilS, .int .i64 3])) := by
  obtain ⟨B, h1, h2, h3⟩ := h.apart
  exact advance_bad B C c dt wr h1 hd
theorem at_st {w wr : World} {C G n : Nat} {c : Ck} {T : List Int} (h : St w wr C G n c T) (b : Nat) (hb : b < n) (ho : at_ c.A b = -1) : Calls Try.prog 18 #[.pointer (some ⟨C, 0, Option.none⟩), .int .i64 b] wr (Same wr (.tuple #[.int .i64 0, .bool false])) := by
  obtain ⟨B, h1, h2, h3⟩ := h.apart
  have := h.inv.n64
  exact at_not B C c b wr h1 ⟨by omega, by omega⟩ (.inr (by rw [Int.toNat_natCast]; omega))
/-- What an advance tells, whether it is done or refused. -/
structure Told (n : Nat) (c' : Ck) (T xs : List Int) (er : Int) : Prop where
  erx : er = 0 ∨ er = 3
  each : ∀ (k : Nat) (x : Int), xs[k]? = some x → ∃ b : Nat, x = b ∧ b < n ∧ at_ T b ≤ c'.now ∧ at_ c'.A b = -1
  order : ∀ k b c : Nat, xs[k]? = some (b : Int) → xs[k + 1]? = some (c : Int) → at_ T b ≤ at_ T c
  left : er = 0 → ∀ k, 0 ≤ at_ c'.A k → c'.now < at_ c'.A k
  len : xs.length ≤ 64
theorem advance_any {w wr : World} {C G n : Nat} {c : Ck} {T : List Int} (h : St w wr C G n c T) (dt : Int) : Calls Try.prog 15 #[.pointer (some ⟨C, 0, Option.none⟩), .int .i64 dt] wr (fun e w' => ∃ v xs er c', e = .returned (.tuple #[v, .int .i64 er]) ∧ St w w' C G n c' T ∧ RowOf 3 1 encI w' v xs ∧ Told n c' T xs er) := by
  by_cases hd : dt < 0 ∨ 4611686018427387904 - c.now < dt
  · refine (advance_st_bad h dt hd).mono ?_
    rintro e w' ⟨rfl, rfl⟩
    exact ⟨nilS, [], 3, c, rfl, h, .inl ⟨rfl, rfl⟩, .inr rfl, fun k x hx => by simp at hx, fun k b c hx => by simp at hx, fun h => by omega, by simp⟩
  · refine (advance_st h dt (by omega) (by omega)).mono ?_
    rintro e w' ⟨v, rfl, h1, h2⟩
    have l1 := h.inv.len
    have l2 := h.inv.n64
    exact ⟨v, _, 0, _, rfl, h1, h2, .inl rfl, fun k x hx => inv_rang h.inv _ hx, fun k b c hb hc => inv_order h.inv _ hb hc, fun _ k hk => adv_left _ c.A.length c.A (cnt_le _) k hk, by have := adv_count (c.now + dt) c.A.length c.A; omega⟩
theorem next_st_none {w wr : World} {C G n : Nat} {c : Ck} {T : List Int} (h : St w wr C G n c T) (hb : best c.A < 0) : Calls Try.prog 16 #[.pointer (some ⟨C, 0, Option.none⟩)] wr (Gives wr (.tuple #[.int .i64 0, .int .i64 0, .bool false])) := next_hasno h.clk hb
theorem next_st_some {w wr : World} {C G n : Nat} {c : Ck} {T : List Int} (h : St w wr C G n c T) (hb : ¬ best c.A < 0) : ∃ b : Nat, 0 ≤ at_ c.A b ∧ Calls Try.prog 16 #[.pointer (some ⟨C, 0, Option.none⟩)] wr (Gives wr (.tuple #[.int .i64 b, .int .i64 (at_ c.A b), .bool true])) := by
  obtain ⟨b, e, h1, h2, _⟩ := best_some hb
  exact ⟨b, h2, next_has h.clk b e⟩
theorem now_st {w wr : World} {C G n : Nat} {c : Ck} {T : List Int} (h : St w wr C G n c T) : Calls Try.prog 17 #[.pointer (some ⟨C, 0, Option.none⟩)] wr (Same wr (.int .i64 c.now)) := now_has h.clk
theorem st_new {w w2 : World} {C n : Nat} (h : HasC w w2 C (fresh n)) (h2 : n ≤ 64) : St w (w2.alloc (.cells #[.int .i64 0, .int .i64 0, .int .i64 0, .int .i64 0, .int .i64 0, .int .i64 0, .int .i64 0, .int .i64 0, .int .i64 0, .int .i64 0, .int .i64 0, .int .i64 0, .int .i64 0, .int .i64 0, .int .i64 0, .int .i64 0, .int .i64 0, .int .i64 0, .int .i64 0, .int .i64 0, .int .i64 0, .int .i64 0, .int .i64 0, .int .i64 0, .int .i64 0, .int .i64 0, .int .i64 0, .int .i64 0, .int .i64 0, .int .i64 0, .int .i64 0, .int .i64 0, .int .i64 0, .int .i64 0, .int .i64 0, .int .i64 0, .int .i64 0, .int .i64 0, .int .i64 0, .int .i64 0, .int .i64 0, .int .i64 0, .int .i64 0, .int .i64 0, .int .i64 0, .int .i64 0, .int .i64 0, .int .i64 0, .int .i64 0, .int .i64 0, .int .i64 0, .int .i64 0, .int .i64 0, .int .i64 0, .int .i64 0, .int .i64 0, .int .i64 0, .int .i64 0, .int .i64 0, .int .i64 0, .int .i64 0, .int .i64 0, .int .i64 0, .int .i64 0] 28)) C w2.heap.size n (fresh n) (List.replicate 64 0) := by
  have hb : Below w2.heap.size w2 (w2.alloc (.cells (arr (List.replicate 64 0)) 28)) := (Below.refl _ w2).alloc (Nat.le_refl _) _
  have hx := Blk.new w2 28 (arr (List.replicate 64 0))
  have hc := h.below hb
  obtain ⟨B, a1, a2, a3⟩ := h
  have e : (#[.int .i64 0, .int .i64 0, .int .i64 0, .int .i64 0, .int .i64 0, .int .i64 0, .int .i64 0, .int .i64 0, .int .i64 0, .int .i64 0, .int .i64 0, .int .i64 0, .int .i64 0, .int .i64 0, .int .i64 0, .int .i64 0, .int .i64 0, .int .i64 0, .int .i64 0, .int .i64 0, .int .i64 0, .int .i64 0, .int .i64 0, .int .i64 0, .int .i64 0, .int .i64 0, .int .i64 0, .int .i64 0, .int .i64 0, .int .i64 0, .int .i64 0, .int .i64 0, .int .i64 0, .int .i64 0, .int .i64 0, .int .i64 0, .int .i64 0, .int .i64 0, .int .i64 0, .int .i64 0, .int .i64 0, .int .i64 0, .int .i64 0, .int .i64 0, .int .i64 0, .int .i64 0, .int .i64 0, .int .i64 0, .int .i64 0, .int .i64 0, .int .i64 0, .int .i64 0, .int .i64 0, .int .i64 0, .int .i64 0, .int .i64 0, .int .i64 0, .int .i64 0, .int .i64 0, .int .i64 0, .int .i64 0, .int .i64 0, .int .i64 0, .int .i64 0] : Array Value) = arr (List.replicate 64 0) := by rfl
  rw [e]
  exact ⟨hc, hx, a3.size, ⟨B, a1.below hb, a2, fun hB => by have := a1.lt _ hB; omega⟩, inv_fresh n h2⟩
end Go.Proofs.Ytiphkgkhfomcaaa.Alarm
