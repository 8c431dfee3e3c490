/- Chapter 25 (duct): Flying of a duct that lies: its iterator (60). -/
import Derived.Test.YtiphkgkhfomcaaaDuctRange
import Derived.Test.YtiphkgkhfomcaaaDuctSort
import Derived.Test.YtiphkgkhfomcaaaInHeld
import Derived.Test.YtiphkgkhfomcaaaDuctDouble
import Derived.Shelf.Abstract
import Derived.Shelf.RegionOpen
import Derived.OwnWalkIn
import Derived.TacticsInMore
import Derived.LoopNIn
import Derived.LoopIn
set_option linter.unusedSimpArgs false
set_option linter.unusedVariables false
attribute [local go_sem ↓] Go.wp_at_zero Go.wp_at_succ
namespace Go.Proofs.Ytiphkgkhfomcaaa.Duct
open Go.BigFrame Go.RowKit Go.OpenShut Go.Shelf Go.Proofs.Ytiphkgkhfomcaaa.Aid Go.Proofs.Ytiphkgkhfomcaaa.DMap Go.Proofs.Ytiphkgkhfomcaaa.Byt Go.Proofs.Ytiphkgkhfomcaaa.Told Go.Proofs.Ytiphkgkhfomcaaa.InH
attribute [local go_sem] Oper.semAt_some
theorem flying_calls (g : Nat) (w : World) : Calls Try.prog 39 #[.pointer (some ⟨g, 0, Option.none⟩)] w fun e w' => e = .returned (.func (.func 60) #[] #[.pointer (some ⟨w.heap.size, 0, Option.none⟩)]) ∧ w' = w.alloc (.cells #[.pointer (some ⟨g, 0, Option.none⟩)] 57) := by
  go_enter Try.func39, Try.ntmps39
  go_wp2
  go_ret
  exact ⟨rfl, rfl⟩
/-- 'm[i]'. -/
theorem look1 {w : World} {b sz : Nat} {z : Value} {m : Int → Option Value} (h : MapOf w b z m sz) {t e : TypeId} (ht : Try.prog.underlying t = some (.map 3 e)) (hz : (zeroValue e).run Try.prog w = .ok z w) {i : Int} (hi : Fits i) :
    (Instr.lookup t (.map (some b)) (.int .i64 i) false).run Try.prog w = .ok ((m i).getD z) w := by
  obtain ⟨D, h1, h2, h3⟩ := h
  obtain ⟨e1, e2⟩ := h3 i hi
  obtain ⟨v, ps, hrun, hv⟩ := h1.lookup keyed3 ht hz (zd := .held z) (zp := []) rfl (keyOf_key hi)
  rw [e2] at hv
  simp only [RV, Option.some.injEq, Prod.mk.injEq, DataW.held.injEq] at hv
  rw [hrun, hv.1]
/-- The numbers of the copies under way, ascending. -/
def fl (L : Dt) : List Int := ids (fun i => (L.raws i).isSome) L.fates.length
theorem fl_map {w : World} {g mb : Nat} {fv : Value} {m : Int → Option Value} {L : Dt} (h : IsDuct w g mb fv m L) : ids (fun i => (m i).isSome) L.fates.length = fl L := by
  unfold fl
  congr 1
  funext i
  rcases h.raw i with ⟨a, b⟩ | ⟨v, xs, a, b, _⟩ <;> simp [a, b]
theorem fl_len {w : World} {g mb : Nat} {fv : Value} {m : Int → Option Value} {L : Dt} (h : IsDuct w g mb fv m L) : (fl L).length = L.n := by
  rw [← fl_map h]
  refine size_ids h.map (fun i hi => ?_) h.len
  rcases h.raw i with ⟨a, b⟩ | ⟨v, xs, a, b, _⟩
  · rw [a] at hi; cases hi
  · exact h.ids i xs b
def idAt (L : Dt) (k : Nat) : Int := (fl L).getD k 0
def fateAt (L : Dt) (k : Nat) : Fate := L.fates.getD (idAt L k).toNat default
def encC (L : Dt) (k : Nat) (v : Value) : Value := .agg #[.int .i64 (idAt L k), .int .i64 (fateAt L k).of_, .int .i64 (fateAt L k).at_, v]
/-- What is told of the k-th piece where it is handed over. -/
def VC (L : Dt) (n1 : Nat) (k : Nat) (v : Value) (W : World) : Prop := ∃ xs, L.raws (idAt L k) = some xs ∧ xs.length ≤ 2096 ∧ RowOf 5 1 encB W v xs ∧ ∀ j, v.ownBlock = some j → n1 ≤ j
/-- What a round keeps: what lay below n1, and the cells from B on. -/
structure KpF (n1 B : Nat) (W W' : World) : Prop where
  bel : Below n1 W W'
  cells : ∀ k, B ≤ k → ∀ o, W.heap[k]? = some o → o.isCells = true → W'.heap[k]? = some o
theorem kpF_t {n1 B : Nat} {X Y Z : World} (h : KpF n1 B X Y) (k : KpF n1 B Y Z) : KpF n1 B X Z := ⟨h.bel.trans k.bel, fun i hi o ho hc => k.cells i hi o (h.cells i hi o ho hc) hc⟩
theorem kpF_b {n1 B : Nat} {w : World} (h1 : n1 ≤ w.heap.size) (W : World) (l : Nat) (o o' : Obj) (hl : w.heap.size ≤ l) (h : W.heap[l]? = some o) (hc : o.isCells = false) (hw : o.isWalk = false) : KpF n1 B W (W.putObj l o') :=
  ⟨belowK_b h1 W l o o' hl h hc hw, fun k _ p hp hcp => by
    by_cases e : k = l
    · subst e
      rw [h] at hp
      cases hp
      rw [hc] at hcp
      cases hcp
    · exact (World.putObj_heap_other e).trans hp⟩
theorem idAt_mem {L : Dt} {k : Nat} (h : k < (fl L).length) : (0 ≤ idAt L k ∧ idAt L k < L.fates.length) ∧ ∃ xs, L.raws (idAt L k) = some xs := by
  have e : idAt L k = (fl L)[k] := by simp [idAt, h]
  have := mem_ids.1 (e ▸ List.getElem_mem h : idAt L k ∈ ids _ _)
  exact ⟨this.1, Option.isSome_iff_exists.1 this.2⟩
def encI (i : Int) : List Value := [.int .i64 i]
theorem encI_len (i : Int) : (encI i).length = 1 := rfl
theorem row_of_owns {w : World} {B : Nat} {v : Value} {xs : List Int} (h : w.ownsRow B 3 1 v xs.length (xs.map encZ)) : RowOf 3 1 encI w v xs ∧ ∀ k, v.ownBlock = some k → B ≤ k := by
  obtain ⟨_, ⟨rfl, h2⟩ | ⟨g, cap, cur, rfl, hg, hc, hn, hcap, hs, ht⟩⟩ := h
  · exact ⟨.inl ⟨rfl, List.length_eq_zero_iff.1 h2⟩, fun k hk => by cases hk⟩
  · refine ⟨.inr ⟨g, cap, cur, rfl, hn, hcap, hc, by omega, ?_⟩, fun k hk => own_ge hk hg⟩
    rw [ht]
    clear ht hs hn
    induction xs with
    | nil => rfl
    | cons x r ih => simp [encI, encZ] at ih ⊢; exact ih
/-- How it stands between two rounds. -/
structure FlSt (wc : World) (n1 B : Nat) (g : Nat) (L : Dt) (v : Value) (wr : World) : Prop where
  bel : Below n1 wc wr
  box : Blk wr B 57 #[.pointer (some ⟨g, 0, Option.none⟩)]
  row : RowOf 3 1 encI wr v (fl L)
  far : ∀ k, v.ownBlock = some k → B ≤ k
theorem FlSt.below {wc : World} {n1 B g : Nat} {L : Dt} {v : Value} {wr w' : World} (h : FlSt wc n1 B g L v wr) (hs : n1 ≤ wr.heap.size) (hb : Below wr.heap.size wr w') : FlSt wc n1 B g L v w' :=
  ⟨h.bel.trans (hb.mono hs), h.box.below hb h.box.lt, h.row.below hb, h.far⟩
theorem FlSt.kept {wc : World} {n1 B g : Nat} {L : Dt} {v : Value} {wr w' : World} (h : FlSt wc n1 B g L v wr) (hk : KpF n1 B wr w') : FlSt wc n1 B g L v w' :=
  ⟨h.bel.trans hk.bel, hk.cells _ (Nat.le_refl _) _ h.box rfl, by
    rcases h.row with ⟨a, b⟩ | ⟨b, cap, cur, e, h1, h2, h3, h4, h5⟩
    · exact .inl ⟨a, b⟩
    · exact .inr ⟨b, cap, cur, e, h1, h2, hk.cells b (h.far b (by rw [e]; rfl)) _ h3 rfl, h4, h5⟩, h.far⟩
theorem sorted_fl (n : Nat) (hn : 5 ≤ n) {wc w : World} {n1 B : Nat} {g mb : Nat} {fv : Value} {m : Int → Option Value} {L : Dt} (h : IsDuct wc g mb fv m L) (hn1 : wc.heap.size = n1) (hb0 : Below n1 wc w) (hX : Blk w B 57 #[.pointer (some ⟨g, 0, Option.none⟩)]) :
    CallsIn Fence.wide n Try.prog 61 #[.func (.func 71) #[] #[.pointer (some ⟨w.heap.size, 0, Option.none⟩)]] (w.alloc (.cells #[.map (some mb)] 109)) fun e w' => ∃ A cp, e = .returned (.slice A L.n cp) ∧
      FlSt wc n1 B g L (.slice A L.n cp) w' ∧ Below w.heap.size w w' := by
  have hD := h.below (hn1 ▸ hb0)
  have hr : ∀ i, (m i).isSome = true → 0 ≤ i ∧ i < L.fates.length := fun i hi => by
    rcases h.raw i with ⟨a, b⟩ | ⟨v, xs, a, b, _⟩
    · rw [a] at hi; cases hi
    · exact h.ids i xs b
  refine (sorted_calls n hn hD.map hr h.len).mono ?_
  rintro e w' ⟨v, rfl, hrow, hb⟩
  obtain ⟨hrow, hfar⟩ := row_of_owns hrow
  rw [fl_map h] at hrow
  obtain ⟨A, cp, rfl, hcp⟩ := hrow.slice
  rw [fl_len h] at hrow hfar ⊢
  have hs := hb0.size
  exact ⟨A, cp, rfl, ⟨hb0.trans (hb.mono (by omega)), hX.below hb hX.lt, hrow, fun k hk => Nat.le_trans (Nat.le_of_lt hX.lt) (hfar k hk)⟩, hb⟩
theorem add_blk (a : Addr) (k : Nat) : (a.add k).block = a.block := by
  unfold Addr.add
  split <;> rfl
theorem two {e : Ending} {P Q : Prop} (h : (e = .returned (.bool true) ∧ P) ∨ (e = .returned (.bool false) ∧ Q)) : ∃ b, e = .returned (.bool b) ∧ Hid ((b = true ∧ P) ∨ (b = false ∧ Q)) := by
  rcases h with ⟨a, p⟩ | ⟨a, q⟩
  · exact ⟨true, a, Lib.hid (.inl ⟨rfl, p⟩)⟩
  · exact ⟨false, a, Lib.hid (.inr ⟨rfl, q⟩)⟩
/-- What a round reads. -/
structure Cel (W : World) (B g mb : Nat) (L : Dt) (a ad : Addr) (c k kk : Nat) (v : Value) : Prop where
  x0 : W.cell? (a.add k) = some (.int .i64 kk)
  x1 : W.cell? ⟨B, 0, Option.none⟩ = some (.pointer (some ⟨g, 0, Option.none⟩))
  x2 : W.cell? ⟨g, 1, Option.none⟩ = some (.slice (some ad) L.fates.length c)
  x3 : W.cell? ⟨g, 2, Option.none⟩ = some (.map (some mb))
  x4 : W.cell? (ad.add (kk * 4)) = some (.int .i64 (fateAt L k).of_)
  x5 : W.cell? ⟨(ad.add (kk * 4)).block, (ad.add (kk * 4)).off + 1, Option.none⟩ = some (.int .i64 (fateAt L k).at_)
  x6 : (Instr.lookup 109 (.map (some mb)) (.int .i64 kk) false).run Try.prog W = .ok v W
theorem fl_cel {wc W : World} {n1 B : Nat} {g mb : Nat} {m : Int → Option Value} {L : Dt} {a ad : Addr} {c cp : Nat} (h : IsDuct wc g mb (.slice (some ad) L.fates.length c) m L) (hn1 : wc.heap.size = n1) (hS : FlSt wc n1 B g L (.slice (some a) L.n cp) W) {k : Nat} (hk : k < L.n) {kk : Nat} (hid : idAt L k = kk) (hkk : kk < L.fates.length) {v : Value} (hm : m (kk : Int) = some v) : Cel W B g mb L a ad c k kk v := by
  have hD := h.below (hn1 ▸ hS.bel)
  have hkl : k < (fl L).length := by rw [fl_len h]; exact hk
  obtain ⟨A', c', e1, e2, hR⟩ := hS.row.reps encI_len
  obtain ⟨a', ea, hl, hc⟩ := hR k (idAt L k) (by simp [idAt, hkl])
  injection e1 with e1 _ _
  subst e1
  obtain rfl : a = a' := Option.some.inj ea
  obtain ⟨ad', c'', e3, hcap, had, f0, f1, _, _⟩ := fate_cells hD.row kk hkk
  injection e3 with e3 _ e4
  obtain rfl : ad = ad' := Option.some.inj e3
  have hf : fateAt L k = L.fates.getD kk default := by simp [fateAt, hid]
  have g1 := hD.box.cell 1
  have g2 := hD.box.cell 2
  have bx := hS.box.cell 0
  have c0 := hc 0 _ rfl
  simp at g1 g2 bx c0
  rw [hid] at c0
  have hlen := h.len
  have hlk := look1 hD.map Try.underlying109 (zero61 W) (i := (kk : Int)) ⟨by omega, by omega⟩
  rw [hm] at hlk
  exact ⟨c0, bx, g1, g2, by rw [hf]; exact f0, by rw [hf]; exact f1, hlk⟩
theorem fl_round {wc wr : World} {n1 B : Nat} {g mb : Nat} {fv : Value} {m : Int → Option Value} {L : Dt} {A : Option Addr} {cp : Nat} (h : IsDuct wc g mb fv m L) (hn1 : wc.heap.size = n1) (hS : FlSt wc n1 B g L (.slice A L.n cp) wr) {k : Nat} (hk : k < L.n) :
    ∃ (kk : Nat) (v : Value) (xs : List Int) (ad : Addr) (c : Nat) (a : Addr), Hid (idAt L k = (kk : Int)) ∧ A = some a ∧ fv = .slice (some ad) L.fates.length c ∧ L.fates.length ≤ 1000000 ∧ kk < L.fates.length ∧ Hid (L.raws (idAt L k) = some xs ∧ xs.length ≤ 2096) ∧ m (kk : Int) = some v ∧
      Hid (∀ W, FlSt wc n1 B g L (.slice (some a) L.n cp) W → Cel W B g mb L a ad c k kk v) ∧
      Hid (∀ n, CallsIn Fence.wide n Try.prog 63 #[v] wr.drew (fun e w' => ∃ vv, e = .returned vv ∧ RowOf 5 1 encB w' vv xs ∧ Below wr.heap.size wr w' ∧ ∀ j, vv.ownBlock = some j → wr.heap.size ≤ j)) ∧
      Hid (FlSt wc n1 B g L (.slice (some a) L.n cp) wr) := by
  have hD := h.below (hn1 ▸ hS.bel)
  have hkl : k < (fl L).length := by rw [fl_len h]; exact hk
  obtain ⟨⟨i0, i1⟩, xs, hx⟩ := idAt_mem hkl
  obtain ⟨kk, hid⟩ : ∃ kk : Nat, idAt L k = kk := ⟨(idAt L k).toNat, by omega⟩
  have hkk : kk < L.fates.length := by omega
  obtain ⟨A', c', e1, e2, hR⟩ := hS.row.reps encI_len
  obtain ⟨a, rfl, hl, hc⟩ := hR k (idAt L k) (by simp [idAt, hkl])
  injection e1 with e1 _ _
  subst e1
  obtain ⟨ad, c, rfl, hcap, had, f0, f1, _, _⟩ := fate_cells hD.row kk hkk
  rcases h.raw (idAt L k) with ⟨_, b⟩ | ⟨v, xs', hm, b, hrow, hxl, _⟩
  · rw [hx] at b; cases b
  obtain rfl : xs = xs' := by rw [hx] at b; exact Option.some.inj b
  rw [hid] at hm
  have hf : fateAt L k = L.fates.getD kk default := by simp [fateAt, hid]
  have g1 := hD.box.cell 1
  have g2 := hD.box.cell 2
  have bx := hS.box.cell 0
  have c0 := hc 0 _ rfl
  simp at g1 g2 bx c0
  rw [hid] at c0
  have hgl := hD.box.lt
  have hbl := hS.box.lt
  refine ⟨kk, v, xs, ad, c, a, Lib.hid hid, rfl, rfl, h.len, hkk, Lib.hid ⟨hx, hxl⟩, hm, Lib.hid (fun W hW => fl_cel h hn1 hW hk hid hkk hm), Lib.hid (fun n => callsIn_wide.2 ((bclone_calls v xs wr.drew (src_row (show RowOf 5 1 encB wr.drew v xs from (hrow.below (hn1 ▸ hS.bel.drew)))) (by omega)).mono ?_)), Lib.hid hS⟩
  · rintro e w' ⟨vv, rfl, hr, hb, hn⟩
    exact ⟨vv, rfl, hr, (Below.refl _ _).drew.trans hb, hn⟩
set_option maxRecDepth 100000 in
set_option maxHeartbeats 4000000 in
theorem fly_in (n : Nat) (hn : 7 ≤ n) (l B n1 : Nat) (wc : World) (g mb : Nat) (fv : Value) (m : Int → Option Value) (L : Dt) (h : IsDuct wc g mb fv m L) (J Jx : Nat → World → Prop) (W : World) (hn1 : wc.heap.size = n1) (hB : n1 ≤ B) (hbW : Below n1 wc W)
    (hbox : Blk W B 57 #[.pointer (some ⟨g, 0, Option.none⟩)]) (hJ : AbidesFrom W.heap.size J)
    (hY : ∀ k v W1, J k W1 → k < L.n → VC L n1 k v W1 → YieldAt Fence.wide (n - 1) Try.prog l #[encC L k v] W1 fun e W' =>
      (e = .returned (.bool true) ∧ J (k + 1) W' ∧ KpF n1 B W1 W') ∨ (e = .returned (.bool false) ∧ Jx k W' ∧ KpF n1 B W1 W'))
    (h0 : J 0 W) :
    CallsIn Fence.wide n Try.prog 60 #[.func (.yield l) #[] #[], .pointer (some ⟨B, 0, Option.none⟩)] W fun e W' => (∃ v, e = .returned v) ∧ (J L.n W' ∨ ∃ k, k < L.n ∧ Jx k W') := by
  have H := Lib.hid h
  have HY := Lib.hid hY
  have HJ := Lib.hid hJ
  have HJ0 := Lib.hid h0
  have hD := h.below (hn1 ▸ hbW)
  have HB := Lib.hid hbW
  have HX := Lib.hid hbox
  have c0 := hbox.cell 0
  have g2 := hD.box.cell 2
  simp at c0 g2
  have K1 := Lib.hid (fun mb W => keys_calls (n - 1) mb W)
  have K2 := Lib.hid (sorted_fl (n - 1) (by omega) h hn1 hbW hbox)
  clear h hY hJ h0 hbW hbox hD
  refine callsIn_of_wp Try.func60 rfl trivial ?_ rfl
  simp only [Try.ntmps60, List.size_toArray, List.length_cons, List.length_nil, Nat.reduceAdd, Nat.reduceSub, Array.replicate_succ, Array.replicate_zero, List.push_toArray, List.append_toArray, List.nil_append, List.cons_append]
  have h1 : 1 ≤ n := by omega
  have h62 : Fence.wide.fn 62 := trivial
  have h61 : Fence.wide.fn 61 := trivial
  gi_wp2_with (first
    | (gi_at_call 62; refine (K1.out _ _).mono ?_; rintro e w' ⟨rfl, rfl⟩)
    | (gi_at_call 61; refine K2.out.mono ?_; rintro e w2 ⟨A, cp, rfl, hS, hb⟩; have HS := Lib.hid hS; have HW := Lib.hid hb; clear hS hb K1 K2))
  have hJ2 := Lib.hid (HJ.out 0 W w2 Option.none HJ0.out (grown_below HW.out Option.none) (fun r e => by cases e))
  clear HJ0 HB HX c0 g2
  gi_loopw [14] (fun i wr => ∃ k : Nat, k ≤ L.n ∧ i = .int .i64 k ∧ Hid (J k wr) ∧ Hid (FlSt wc n1 B g L (.slice A L.n cp) wr)) (fun i _ => L.n - (intOf i).toNat)
  case atStart => exact ⟨0, by omega, rfl, hJ2, HS⟩
  case round =>
    obtain ⟨k, hk, rfl, hJk, hS⟩ := hrel
    by_cases hlt : k < L.n
    · obtain ⟨kk, v, xs, ad, c, a, hid, rfl, rfl, hid0, hkk, hx, hm, CC, KC, hrow1⟩ := fl_round H.out hn1 hS.out hlt
      have x0 := (CC.out wr hS.out).x0
      have q0 : (0 : Int) ≤ (k : Int) := by omega
      have q1 : (k : Int) < (L.n : Int) := by omega
      have q2 : (0 : Int) ≤ (kk : Int) := by omega
      have q3 : (kk : Int) < (L.fates.length : Int) := by omega
      have h63 : Fence.wide.fn 63 := trivial
      have mixed : Try.prog.follows .mixedOrders = true := by kernel_rfl
      have hcnt := H.out.cnt
      have hs1 : n1 ≤ wr.heap.size := hn1 ▸ hS.out.bel.size
      clear hm H
      gi_wp2
      clear x0
      refine region_held (S := fun W => FlSt wc n1 B g L (.slice (some a) L.n cp) W) mixed ?_
      have hHeld : FlSt wc n1 B g L (.slice (some a) L.n cp) wr.drew := hS.out.below hs1 (Below.refl _ _).drew
      refine any_take (i := 0) (oi := _) (v := ?_) rfl rfl (by kernel_rfl) (by kernel_rfl) (by kernel_rfl) (fun _ _ _ h => h) ⟨Or.inl ⟨by rfl, ?_⟩, fun _ => rfl⟩ hHeld ?_
      rotate_left
      · intro w hSw
        obtain ⟨x0, x1, x2, x3, x4, x5, x6⟩ := CC.out w hSw
        go_simp
        try with_reducible rfl
      (try simp only [List.getElem_toArray, List.getElem_cons_succ, List.getElem_cons_zero])
      (try simp only [Act.put, List.setIfInBounds_toArray, List.set_cons_zero, List.set_cons_succ])
      refine any_take (i := 1) (oi := _) (v := ?_) rfl rfl (by kernel_rfl) (by kernel_rfl) (by kernel_rfl) (fun _ _ _ h => h) ⟨Or.inl ⟨by rfl, ?_⟩, fun _ => rfl⟩ hHeld ?_
      rotate_left
      · intro w hSw
        obtain ⟨x0, x1, x2, x3, x4, x5, x6⟩ := CC.out w hSw
        go_simp
        try with_reducible rfl
      (try simp only [List.getElem_toArray, List.getElem_cons_succ, List.getElem_cons_zero])
      (try simp only [Act.put, List.setIfInBounds_toArray, List.set_cons_zero, List.set_cons_succ])
      refine any_take (i := 2) (oi := _) (v := ?_) rfl rfl (by kernel_rfl) (by kernel_rfl) (by kernel_rfl) (fun _ _ _ h => h) ⟨Or.inl ⟨by rfl, ?_⟩, fun _ => rfl⟩ hHeld ?_
      rotate_left
      · intro w hSw
        obtain ⟨x0, x1, x2, x3, x4, x5, x6⟩ := CC.out w hSw
        go_simp
        try with_reducible rfl
      (try simp only [List.getElem_toArray, List.getElem_cons_succ, List.getElem_cons_zero])
      (try simp only [Act.put, List.setIfInBounds_toArray, List.set_cons_zero, List.set_cons_succ])
      refine any_take (i := 3) (oi := _) (v := ?_) rfl rfl (by kernel_rfl) (by kernel_rfl) (by kernel_rfl) (fun _ _ _ h => h) ⟨Or.inl ⟨by rfl, ?_⟩, fun _ => rfl⟩ hHeld ?_
      rotate_left
      · intro w hSw
        obtain ⟨x0, x1, x2, x3, x4, x5, x6⟩ := CC.out w hSw
        go_simp
        try with_reducible rfl
      (try simp only [List.getElem_toArray, List.getElem_cons_succ, List.getElem_cons_zero])
      (try simp only [Act.put, List.setIfInBounds_toArray, List.set_cons_zero, List.set_cons_succ])
      refine any_take (i := 4) (oi := _) (v := ?_) rfl rfl (by kernel_rfl) (by kernel_rfl) (by kernel_rfl) (fun _ _ _ h => h) ⟨Or.inl ⟨by rfl, ?_⟩, fun _ => rfl⟩ hHeld ?_
      rotate_left
      · intro w hSw
        obtain ⟨x0, x1, x2, x3, x4, x5, x6⟩ := CC.out w hSw
        go_simp
        try with_reducible rfl
      (try simp only [List.getElem_toArray, List.getElem_cons_succ, List.getElem_cons_zero])
      (try simp only [Act.put, List.setIfInBounds_toArray, List.set_cons_zero, List.set_cons_succ])
      refine any_take (i := 5) (oi := _) (v := ?_) rfl rfl (by kernel_rfl) (by kernel_rfl) (by kernel_rfl) (fun _ _ _ h => h) ⟨Or.inl ⟨by rfl, ?_⟩, fun _ => rfl⟩ hHeld ?_
      rotate_left
      · intro w hSw
        obtain ⟨x0, x1, x2, x3, x4, x5, x6⟩ := CC.out w hSw
        go_simp
        try with_reducible rfl
      (try simp only [List.getElem_toArray, List.getElem_cons_succ, List.getElem_cons_zero])
      (try simp only [Act.put, List.setIfInBounds_toArray, List.set_cons_zero, List.set_cons_succ])
      refine any_take (i := 6) (oi := _) (v := ?_) rfl rfl (by kernel_rfl) (by kernel_rfl) (by kernel_rfl) (fun _ _ _ h => h) ⟨Or.inl ⟨by rfl, ?_⟩, fun _ => rfl⟩ hHeld ?_
      rotate_left
      · intro w hSw
        obtain ⟨x0, x1, x2, x3, x4, x5, x6⟩ := CC.out w hSw
        go_simp
        try with_reducible rfl
      (try simp only [List.getElem_toArray, List.getElem_cons_succ, List.getElem_cons_zero])
      (try simp only [Act.put, List.setIfInBounds_toArray, List.set_cons_zero, List.set_cons_succ])
      refine any_take (i := 7) (oi := _) (v := ?_) rfl rfl (by kernel_rfl) (by kernel_rfl) (by kernel_rfl) (fun _ _ _ h => h) ⟨Or.inl ⟨by rfl, ?_⟩, fun _ => rfl⟩ hHeld ?_
      rotate_left
      · intro w hSw
        obtain ⟨x0, x1, x2, x3, x4, x5, x6⟩ := CC.out w hSw
        go_simp
        try with_reducible rfl
      (try simp only [List.getElem_toArray, List.getElem_cons_succ, List.getElem_cons_zero])
      (try simp only [Act.put, List.setIfInBounds_toArray, List.set_cons_zero, List.set_cons_succ])
      refine any_take (i := 8) (oi := _) (v := ?_) rfl rfl (by kernel_rfl) (by kernel_rfl) (by kernel_rfl) (fun _ _ _ h => h) ⟨Or.inl ⟨by rfl, ?_⟩, fun _ => rfl⟩ hHeld ?_
      rotate_left
      · intro w hSw
        obtain ⟨x0, x1, x2, x3, x4, x5, x6⟩ := CC.out w hSw
        go_simp
        try with_reducible rfl
      (try simp only [List.getElem_toArray, List.getElem_cons_succ, List.getElem_cons_zero])
      (try simp only [Act.put, List.setIfInBounds_toArray, List.set_cons_zero, List.set_cons_succ])
      refine any_take (i := 9) (oi := _) (v := ?_) rfl rfl (by kernel_rfl) (by kernel_rfl) (by kernel_rfl) (fun _ _ _ h => h) ⟨Or.inl ⟨by rfl, ?_⟩, fun _ => rfl⟩ hHeld ?_
      rotate_left
      · intro w hSw
        obtain ⟨x0, x1, x2, x3, x4, x5, x6⟩ := CC.out w hSw
        go_simp
        try with_reducible rfl
      (try simp only [List.getElem_toArray, List.getElem_cons_succ, List.getElem_cons_zero])
      (try simp only [Act.put, List.setIfInBounds_toArray, List.set_cons_zero, List.set_cons_succ])
      refine any_take (i := 10) (oi := _) (v := ?_) rfl rfl (by kernel_rfl) (by kernel_rfl) (by kernel_rfl) (fun _ _ _ h => h) ⟨Or.inl ⟨by rfl, ?_⟩, fun _ => rfl⟩ hHeld ?_
      rotate_left
      · intro w hSw
        obtain ⟨x0, x1, x2, x3, x4, x5, x6⟩ := CC.out w hSw
        go_simp
        try with_reducible rfl
      (try simp only [List.getElem_toArray, List.getElem_cons_succ, List.getElem_cons_zero])
      (try simp only [Act.put, List.setIfInBounds_toArray, List.set_cons_zero, List.set_cons_succ])
      refine any_take (i := 11) (oi := _) (v := ?_) rfl rfl (by kernel_rfl) (by kernel_rfl) (by kernel_rfl) (fun _ _ _ h => h) ⟨Or.inl ⟨by rfl, ?_⟩, fun _ => rfl⟩ hHeld ?_
      rotate_left
      · intro w hSw
        obtain ⟨x0, x1, x2, x3, x4, x5, x6⟩ := CC.out w hSw
        go_simp
        try with_reducible rfl
      (try simp only [List.getElem_toArray, List.getElem_cons_succ, List.getElem_cons_zero])
      (try simp only [Act.put, List.setIfInBounds_toArray, List.set_cons_zero, List.set_cons_succ])
      refine any_take (i := 12) (oi := _) (v := ?_) rfl rfl (by kernel_rfl) (by kernel_rfl) (by kernel_rfl) (fun _ _ _ h => h) ⟨Or.inl ⟨by rfl, ?_⟩, fun _ => rfl⟩ hHeld ?_
      rotate_left
      · intro w hSw
        obtain ⟨x0, x1, x2, x3, x4, x5, x6⟩ := CC.out w hSw
        go_simp
        try with_reducible rfl
      (try simp only [List.getElem_toArray, List.getElem_cons_succ, List.getElem_cons_zero])
      (try simp only [Act.put, List.setIfInBounds_toArray, List.set_cons_zero, List.set_cons_succ])
      refine any_take (i := 13) (oi := _) (v := ?_) rfl rfl (by kernel_rfl) (by kernel_rfl) (by kernel_rfl) (fun _ _ _ h => h) ⟨Or.inl ⟨by rfl, ?_⟩, fun _ => rfl⟩ hHeld ?_
      rotate_left
      · intro w hSw
        obtain ⟨x0, x1, x2, x3, x4, x5, x6⟩ := CC.out w hSw
        go_simp
        try with_reducible rfl
      (try simp only [List.getElem_toArray, List.getElem_cons_succ, List.getElem_cons_zero])
      (try simp only [Act.put, List.setIfInBounds_toArray, List.set_cons_zero, List.set_cons_succ])
      refine any_take (i := 14) (oi := _) (v := ?_) rfl rfl (by kernel_rfl) (by kernel_rfl) (by kernel_rfl) (fun _ _ _ h => h) ⟨Or.inl ⟨by rfl, ?_⟩, fun _ => rfl⟩ hHeld ?_
      rotate_left
      · intro w hSw
        obtain ⟨x0, x1, x2, x3, x4, x5, x6⟩ := CC.out w hSw
        go_simp
        try with_reducible rfl
      (try simp only [List.getElem_toArray, List.getElem_cons_succ, List.getElem_cons_zero])
      (try simp only [Act.put, List.setIfInBounds_toArray, List.set_cons_zero, List.set_cons_succ])
      refine any_take (i := 15) (oi := _) (v := ?_) rfl rfl (by kernel_rfl) (by kernel_rfl) (by kernel_rfl) (fun _ _ _ h => h) ⟨Or.inl ⟨by rfl, ?_⟩, fun _ => rfl⟩ hHeld ?_
      rotate_left
      · intro w hSw
        obtain ⟨x0, x1, x2, x3, x4, x5, x6⟩ := CC.out w hSw
        go_simp
        try with_reducible rfl
      (try simp only [List.getElem_toArray, List.getElem_cons_succ, List.getElem_cons_zero])
      (try simp only [Act.put, List.setIfInBounds_toArray, List.set_cons_zero, List.set_cons_succ])
      refine any_take (i := 16) (oi := _) (v := ?_) rfl rfl (by kernel_rfl) (by kernel_rfl) (by kernel_rfl) (fun _ _ _ h => h) ⟨Or.inl ⟨by rfl, ?_⟩, fun _ => rfl⟩ hHeld ?_
      rotate_left
      · intro w hSw
        obtain ⟨x0, x1, x2, x3, x4, x5, x6⟩ := CC.out w hSw
        go_simp
        try with_reducible rfl
      (try simp only [List.getElem_toArray, List.getElem_cons_succ, List.getElem_cons_zero])
      (try simp only [Act.put, List.setIfInBounds_toArray, List.set_cons_zero, List.set_cons_succ])
      refine any_take (i := 17) (oi := _) (v := ?_) rfl rfl (by kernel_rfl) (by kernel_rfl) (by kernel_rfl) (fun _ _ _ h => h) ⟨Or.inl ⟨by rfl, ?_⟩, fun _ => rfl⟩ hHeld ?_
      rotate_left
      · intro w hSw
        obtain ⟨x0, x1, x2, x3, x4, x5, x6⟩ := CC.out w hSw
        go_simp
        try with_reducible rfl
      (try simp only [List.getElem_toArray, List.getElem_cons_succ, List.getElem_cons_zero])
      (try simp only [Act.put, List.setIfInBounds_toArray, List.set_cons_zero, List.set_cons_succ])
      refine any_take (i := 18) (oi := _) (v := ?_) rfl rfl (by kernel_rfl) (by kernel_rfl) (by kernel_rfl) (fun _ _ _ h => h) ⟨Or.inl ⟨by rfl, ?_⟩, fun _ => rfl⟩ hHeld ?_
      rotate_left
      · intro w hSw
        obtain ⟨x0, x1, x2, x3, x4, x5, x6⟩ := CC.out w hSw
        go_simp
        try with_reducible rfl
      (try simp only [List.getElem_toArray, List.getElem_cons_succ, List.getElem_cons_zero])
      (try simp only [Act.put, List.setIfInBounds_toArray, List.set_cons_zero, List.set_cons_succ])
      refine any_take (i := 19) (oi := _) (v := ?_) rfl rfl (by kernel_rfl) (by kernel_rfl) (by kernel_rfl) (fun _ _ _ h => h) ⟨Or.inl ⟨by rfl, ?_⟩, fun _ => rfl⟩ hHeld ?_
      rotate_left
      · intro w hSw
        obtain ⟨x0, x1, x2, x3, x4, x5, x6⟩ := CC.out w hSw
        go_simp
        try with_reducible rfl
      (try simp only [List.getElem_toArray, List.getElem_cons_succ, List.getElem_cons_zero])
      (try simp only [Act.put, List.setIfInBounds_toArray, List.set_cons_zero, List.set_cons_succ])
      refine any_take (i := 20) (oi := _) (v := ?_) rfl rfl (by kernel_rfl) (by kernel_rfl) (by kernel_rfl) (fun _ _ _ h => h) ⟨Or.inl ⟨by rfl, ?_⟩, fun _ => rfl⟩ hHeld ?_
      rotate_left
      · intro w hSw
        obtain ⟨x0, x1, x2, x3, x4, x5, x6⟩ := CC.out w hSw
        go_simp
        try with_reducible rfl
      (try simp only [List.getElem_toArray, List.getElem_cons_succ, List.getElem_cons_zero])
      (try simp only [Act.put, List.setIfInBounds_toArray, List.set_cons_zero, List.set_cons_succ])
      refine any_take (i := 21) (oi := _) (v := ?_) rfl rfl (by kernel_rfl) (by kernel_rfl) (by kernel_rfl) (fun _ _ _ h => h) ⟨Or.inl ⟨by rfl, ?_⟩, fun _ => rfl⟩ hHeld ?_
      rotate_left
      · intro w hSw
        obtain ⟨x0, x1, x2, x3, x4, x5, x6⟩ := CC.out w hSw
        go_simp
        try with_reducible rfl
      (try simp only [List.getElem_toArray, List.getElem_cons_succ, List.getElem_cons_zero])
      (try simp only [Act.put, List.setIfInBounds_toArray, List.set_cons_zero, List.set_cons_succ])
      refine any_take (i := 22) (oi := _) (v := ?_) rfl rfl (by kernel_rfl) (by kernel_rfl) (by kernel_rfl) (fun _ _ _ h => h) ⟨Or.inl ⟨by rfl, ?_⟩, fun _ => rfl⟩ hHeld ?_
      rotate_left
      · intro w hSw
        obtain ⟨x0, x1, x2, x3, x4, x5, x6⟩ := CC.out w hSw
        go_simp
        try with_reducible rfl
      (try simp only [List.getElem_toArray, List.getElem_cons_succ, List.getElem_cons_zero])
      (try simp only [Act.put, List.setIfInBounds_toArray, List.set_cons_zero, List.set_cons_succ])
      refine any_take (i := 23) (oi := _) (v := ?_) rfl rfl (by kernel_rfl) (by kernel_rfl) (by kernel_rfl) (fun _ _ _ h => h) ⟨Or.inl ⟨by rfl, ?_⟩, fun _ => rfl⟩ hHeld ?_
      rotate_left
      · intro w hSw
        obtain ⟨x0, x1, x2, x3, x4, x5, x6⟩ := CC.out w hSw
        go_simp
        try with_reducible rfl
      (try simp only [List.getElem_toArray, List.getElem_cons_succ, List.getElem_cons_zero])
      (try simp only [Act.put, List.setIfInBounds_toArray, List.set_cons_zero, List.set_cons_succ])
      refine any_one (i := 24) (by kernel_rfl) ?_
      refine wpOpIn_step (o := _) rfl (fun K hK => ?_)
      have HK := Lib.hid hK
      clear hK
      (try simp only [List.getElem_toArray, List.getElem_cons_succ, List.getElem_cons_zero])
      rw [if_pos (by rfl)]
      refine ⟨fun _ _ => trivial, ?_⟩
      rw [show Fence.wide.round = Option.none from rfl, Oper.semAt_none]
      go_simp
      refine (KC.out _).mono ?_
      rintro e w3 ⟨vv, rfl, hr3, hb3, hn3⟩
      obtain ⟨Av, cv, rfl, hcv⟩ := hr3.slice
      have hS3 : FlSt wc n1 B g L (.slice (some a) L.n cp) w3 := hS.out.below hs1 hb3
      obtain ⟨fn, tmps, assign, body, hy, hR⟩ := HY.out k _ w3 (HJ.out k wr w3 Option.none hJk.out (grown_below hb3 Option.none) (fun r e => by cases e)) hlt ⟨xs, hx.out.1, hx.out.2, hr3, fun j hj => Nat.le_trans hs1 (hn3 j hj)⟩
      rw [encC, hid.out] at hy
      have HR := Lib.hid hR
      clear hr3 hn3 hR hcv hHeld
      refine HK.out _ _ ⟨hS3, ?_⟩
      clear HK K
      (try simp only [List.getElem_toArray, List.getElem_cons_succ, List.getElem_cons_zero])
      (try simp only [Act.put, List.setIfInBounds_toArray, List.set_cons_zero, List.set_cons_succ])
      refine any_take (i := 25) (oi := _) (v := ?_) rfl rfl (by kernel_rfl) (by kernel_rfl) (by kernel_rfl) (fun _ _ _ h => h) ⟨Or.inl ⟨by rfl, ?_⟩, fun _ => rfl⟩ hS3 ?_
      rotate_left
      · intro w hSw
        go_simp
        try with_reducible rfl
      (try simp only [List.getElem_toArray, List.getElem_cons_succ, List.getElem_cons_zero])
      (try simp only [Act.put, List.setIfInBounds_toArray, List.set_cons_zero, List.set_cons_succ])
      refine any_one (i := 26) (by kernel_rfl) ?_
      refine wpOpIn_step (o := _) rfl (fun K hK => ?_)
      have HK := Lib.hid hK
      clear hK
      (try simp only [List.getElem_toArray, List.getElem_cons_succ, List.getElem_cons_zero])
      rw [if_pos (by rfl)]
      refine ⟨fun _ _ => trivial, ?_⟩
      rw [show Fence.wide.round = Option.none from rfl, Oper.semAt_none]
      go_simp
      refine HR.out.mono ?_
      rintro e W3 hE
      obtain ⟨b3, e3, hE2⟩ := two hE
      clear hE
      subst e3
      have hS4 : FlSt wc n1 B g L (.slice (some a) L.n cp) W3 := hS3.kept (hE2.out.elim (fun h => h.2.2) (fun h => h.2.2))
      refine HK.out _ _ ⟨hS4, ?_⟩
      clear HK K HR hy
      (try simp only [List.getElem_toArray, List.getElem_cons_succ, List.getElem_cons_zero])
      (try simp only [Act.put, List.setIfInBounds_toArray, List.set_cons_zero, List.set_cons_succ])
      refine any_take (i := 27) (oi := _) (v := ?_) rfl rfl (by kernel_rfl) (by kernel_rfl) (by kernel_rfl) (fun _ _ _ h => h) ⟨Or.inl ⟨by rfl, ?_⟩, fun _ => rfl⟩ hS4 ?_
      rotate_left
      · intro w hSw
        go_simp
        try with_reducible rfl
      (try simp only [List.getElem_toArray, List.getElem_cons_succ, List.getElem_cons_zero])
      (try simp only [Act.put, List.setIfInBounds_toArray, List.set_cons_zero, List.set_cons_succ])
      refine any_done (by kernel_rfl) ?_ _
      have H4 := Lib.hid hS4
      clear hS3 hS4 hb3
      have hE' : (b3 = true ∧ Hid (J (k + 1) W3)) ∨ (b3 = false ∧ Hid (Jx k W3)) := by
        rcases hE2.out with ⟨h, h'⟩ | ⟨h, h'⟩
        · exact .inl ⟨h, Lib.hid h'.1⟩
        · exact .inr ⟨h, Lib.hid h'.1⟩
      clear hE2
      rcases hE' with ⟨rfl, hJ3⟩ | ⟨rfl, hJx3⟩
      · gi_wp2
        go_roundw
        case rel => exact ⟨k + 1, by omega, by go_num, hJ3, H4⟩
        case measure => simp [intOf]; omega
      · gi_wp2
        refine bodyPost_ret (results_none rfl _ _ _) rfl ?_
        exact ⟨⟨_, rfl⟩, .inr ⟨k, hlt, hJx3.out⟩⟩
    · obtain rfl : k = L.n := by omega
      gi_wp2
      go_end0
      exact ⟨⟨_, rfl⟩, .inl hJk.out⟩
/-- Flying's iterator, told to a range. -/
theorem fly_at (n : Nat) (hn : 7 ≤ n) {wc w : World} {g mb : Nat} {fv : Value} {m : Int → Option Value} {L : Dt} (B : Nat) (h : IsDuct wc g mb fv m L) (hB : wc.heap.size ≤ B) (hb : Below wc.heap.size wc w) (hbox : Blk w B 57 #[.pointer (some ⟨g, 0, Option.none⟩)]) :
    SeqAt Fence.wide n Try.prog 60 #[.pointer (some ⟨B, 0, Option.none⟩)] (encC L) (VC L wc.heap.size) (KpF wc.heap.size B) L.n w := fun l J Jx W hW hJ _ hY h0 =>
  fly_in n hn l B _ wc g mb fv m L h J Jx W rfl hB (hb.trans (hW.mono hb.size)) (hbox.below hW hbox.lt) hJ hY h0
end Go.Proofs.Ytiphkgkhfomcaaa.Duct
