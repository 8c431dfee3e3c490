/- Chapter 21 (buffer): a copy into the ring, as a law at the call; Write. -/
import Derived.Test.YtaokiocpfpdmkaaBuf
set_option linter.unusedSimpArgs false
set_option linter.unusedVariables false
attribute [local go_sem ↓] Go.wp_at_zero Go.wp_at_succ
namespace Go.Proofs.Ytaokiocpfpdmkaa.Buff
open Go.BigFrame Go.RowKit Go.OpenShut Go.Proofs.Ytaokiocpfpdmkaa.Aid Go.Proofs.Ytaokiocpfpdmkaa.Spans
open Led (Kept kept_refl kept_set kept_drewN kept_drew kept_below below_kept)
attribute [local go_sem] max_2 min_2 max2_i min2_i
theorem encB_len (x : Int) : (encB x).length = 1 := rfl
theorem encB_one (x : Int) : ∀ u ∈ encB x, u.oneCell' = true := by intro u hu; simp [encB] at hu; rw [hu]; rfl
theorem flatB (xs : List Int) : xs.flatMap encB = xs.map enc8 := by
  induction xs with
  | nil => rfl
  | cons x xs ih => rw [List.flatMap_cons, ih]; rfl
/-- Only the ring's block has turned. -/
structure Ring (w w' : World) (rb : Nat) : Prop where
  os : w'.os = w.os
  tape : w'.tape = w.tape
  output : w'.output = w.output
  size : w'.heap.size = w.heap.size
  block : ∀ k, k ≠ rb → w'.heap[k]? = w.heap[k]?
theorem ring_refl (w : World) (rb : Nat) : Ring w w rb := ⟨rfl, rfl, rfl, rfl, fun _ _ => rfl⟩
theorem ring_trans {a b c : World} {rb : Nat} (h : Ring a b rb) (k : Ring b c rb) : Ring a c rb := ⟨k.os.trans h.os, k.tape.trans h.tape, k.output.trans h.output, k.size.trans h.size, fun j hj => (k.block j hj).trans (h.block j hj)⟩
theorem take_splice {α : Type} (cur L cs : List α) (N o : Nat) (hN : N ≤ cur.length) (hL : cur.take N = L) (ho : o + cs.length ≤ N) : (splice cur o cs).take N = splice L o cs := by
  subst hL
  unfold splice
  have e1 : (cur.take o).length = o := by rw [List.length_take]; omega
  rw [List.take_append, List.take_append, e1, List.take_of_length_le (by omega : (cur.take o).length ≤ N), List.take_of_length_le (by omega : cs.length ≤ N - o), List.take_take, List.drop_take]
  rw [Nat.min_eq_left (by omega : o ≤ N), show N - o - cs.length = N - (o + cs.length) by omega]
theorem map_splice (L : List Int) (o : Nat) (cs : List Int) : (splice L o cs).map enc8 = splice (L.map enc8) o (cs.map enc8) := by
  unfold splice
  simp only [List.map_append, List.map_take, List.map_drop, List.length_map]
/-- A copy into the ring. -/
theorem wpList_copy_ring {w : World} {ops : Array Oper} {rest : List Oper} {o : Oper} {a : Act} {Q : Exit → Act → World → Prop} (hgd : o.guard = Option.none) (d s : Operand)
    (ho : o.op = .call { callee := .builtin .copy, args := #[d, s], argTypes := #[60, 60] }) (rb N cp at_ k : Nat) (L : List Int) (hN : L.length = N) (hrow : RowOf 5 1 encB w (.slice (some ⟨rb, 0, Option.none⟩) N cp) L)
    (hd : a.eval d = piece rb at_ k) (A : Option Addr) (m c : Nat) (xs : List Int) (hm : xs.length = m) (hs : a.eval s = .slice A m c) (hR : Reps w A 1 encB xs) (hfit : at_ + k ≤ N) (j : Nat) (hj : j = min m k)
    (h : ∀ w', RowOf 5 1 encB w' (.slice (some ⟨rb, 0, Option.none⟩) N cp) (splice L at_ (xs.take j)) → Ring w w' rb → wpList Try.prog ops Q rest (a.put o.dst (.int .i64 j)) w') : wpList Try.prog ops Q (o :: rest) a w := by
  have hsz : (Try.prog.info? 5).map (·.size) = some 1 := by kernel_rfl
  have hmin : Nat.min m k = j := by rw [hj]
  by_cases h0 : j = 0
  · subst h0
    refine wpList_copy_nothing hgd d s 60 60 ho 5 Try.underlying60 hsz _ A k k m c (hd.trans rfl) hs hmin ?_
    exact h w (by rw [List.take_zero]; simpa [splice] using hrow) (ring_refl _ _)
  · have hk : k ≠ 0 := by omega
    have hp : piece rb at_ k = .slice (some ⟨rb, at_, Option.none⟩) k k := by unfold piece; rw [if_neg hk]
    obtain ⟨q0, _⟩ | ⟨b, cap, cur, q0, q1, q2, q3, q4, q5⟩ := hrow
    · cases q0
    injection q0 with q0 q6 q7
    obtain rfl : rb = b := by simpa using q0
    subst q7
    have hlen : (xs.take j).length = j := by rw [List.length_take]; omega
    have hx0 : 0 < xs.length := by omega
    obtain ⟨ad, hA, hlt, _⟩ := hR 0 _ (List.getElem?_eq_getElem hx0)
    subst hA
    have hml : ((xs.take j).map enc8).length = j := by rw [List.length_map, hlen]
    refine wpList_copy_own hgd d s 60 60 ho 5 Try.underlying60 hsz rb at_ k k ad m c (hd.trans hp) hs cur 5 q3 ((xs.take j).map enc8) (hml.trans hmin.symm) (fun i v hv => ?_) (by rw [hml]; omega) (fun v hv => ?_) ?_
    · rw [List.getElem?_map] at hv
      obtain ⟨x, hx, rfl⟩ := Option.map_eq_some_iff.1 hv
      have hx2 : xs[i]? = some x := by
        have hi : i < j := by rw [← hlen]; exact (List.getElem?_eq_some_iff.1 hx).1
        rwa [List.getElem?_take_of_lt hi] at hx
      obtain ⟨ad2, e2, _, hc⟩ := hR i x hx2
      obtain rfl : ad = ad2 := by simpa using e2
      have := hc 0 (enc8 x) rfl
      rwa [Nat.mul_one, Nat.add_zero] at this
    · obtain ⟨x, _, rfl⟩ := List.mem_map.1 hv
      rfl
    · rw [hml]
      refine h _ (.inr ⟨rb, cp, _, ?_, ?_, q2, setRow_heap w rb _ _ 5 _ q3, ?_, ?_⟩) ⟨rfl, rfl, rfl, by simp [World.setRow], fun k hk => setRow_other w rb k _ hk⟩
      · rw [length_splice _ _ _ (by rw [hlen]; omega), hN]
      · rw [length_splice _ _ _ (by rw [hlen]; omega)]; exact q1
      · have : (cur.toList).length = cur.size := Array.length_toList ..
        simp only [List.size_toArray, List.length_append, List.length_take, List.length_drop, hml, this]
        omega
      · rw [length_splice _ _ _ (by rw [hlen]; omega), Nat.mul_one, flatB, map_splice]
        have hL : cur.toList.take N = L.map enc8 := by rw [← flatB, ← q5, Nat.mul_one, hN]
        have := take_splice cur.toList (L.map enc8) ((xs.take j).map enc8) N at_ (by rw [Array.length_toList]; omega) hL (by rw [hml]; omega)
        rw [hN, ← this]
        unfold splice
        rw [hml]
def Aim (a : Option Addr) (cap l : Nat) : Option Addr := if cap = l then a else a.map (·.add l)
theorem run_from (a : Option Addr) (len cap : Nat) (l : Int) (w : World) (h0 : 0 ≤ l) (h1 : l ≤ len) :
    (Instr.slice 60 (.slice a len cap) (some (.int .i64 l)) Option.none Option.none).run Try.prog w = .ok (.slice (Aim a cap l.toNat) (len - l.toNat) (cap - l.toNat)) w := by
  rw [run_slice_l (P := Try.prog) w 60 a len cap (by kernel_rfl) .i64 l h0 h1]
  have he : Try.prog.elem 60 = 5 := by kernel_rfl
  simp [he, sliced, Aim, go_sem]
theorem reps_from {w : World} {a : Option Addr} {cap l : Nat} {xs : List Int} (h : Reps w a 1 encB xs) (hc : xs.length ≤ cap) : Reps w (Aim a cap l) 1 encB (xs.drop l) := by
  intro i x hx
  rw [List.getElem?_drop] at hx
  obtain ⟨ad, rfl, had, hcell⟩ := h (l + i) x hx
  have hlt : l + i < xs.length := (List.getElem?_eq_some_iff.1 hx).1
  refine ⟨ad.add l, by simp [Aim]; omega, by unfold Addr.add; split <;> exact had, fun j v hv => ?_⟩
  have := hcell j v hv
  rw [Go.Addr.add_add]
  rw [← this]; congr 2; omega
attribute [local go_sem high] run_from
theorem reps_ring {w w' : World} {rb : Nat} {A : Option Addr} {xs : List Int} (h : Reps w A 1 encB xs) (hr : Ring w w' rb) (hne : xs ≠ [] → ∀ a, A = some a → a.block ≠ rb) : Reps w' A 1 encB xs := by
  intro i x hx
  obtain ⟨ad, rfl, had, hc⟩ := h i x hx
  refine ⟨ad, rfl, by rw [hr.size]; exact had, fun j v hv => ?_⟩
  rw [← hc j v hv]
  unfold World.cell?
  have e : (ad.add (i * 1 + j)).block = ad.block := by unfold Addr.add; split <;> rfl
  have := hr.block (ad.add (i * 1 + j)).block (by rw [e]; exact hne (fun h => by rw [h] at hx; simp at hx) ad rfl)
  rw [this]
/-- What is put into a ring: k bytes from a on, the rest from its head on. -/
def put (L : List Int) (a k : Nat) (p : List Int) : List Int := splice (splice L a (p.take k)) 0 (p.drop k)
theorem length_put (L : List Int) (a k : Nat) (p : List Int) (h : a + k ≤ L.length) (h2 : p.length - k ≤ L.length) : (put L a k p).length = L.length := by
  unfold put
  have e1 : (splice L a (p.take k)).length = L.length := length_splice _ _ _ (by rw [List.length_take]; omega)
  rw [length_splice _ _ _ (by rw [e1, List.length_drop]; omega), e1]
theorem write_none (v : Value) (w : World) : Calls Try.prog 38 #[.pointer Option.none, v] w (Same w (.int .i64 1)) := by
  go_enter Try.func38, Try.ntmps38
  go_wp2
  go_ret
  exact ⟨rfl, rfl⟩
theorem write_full (g rb : Nat) (b : Buf) (A : Option Addr) (n c : Nat) (w : World) (h : IsBuf w g rb b) (h1 : (b.ring.length : Int) - (b.fin - b.una) < n) : Calls Try.prog 38 #[.pointer (some ⟨g, 0, Option.none⟩), .slice A n c] w (Quiet w (.int .i64 4)) := by
  have K := Lib.hid (room_calls g rb b w h)
  clear h
  generalize (b.ring.length : Int) - (b.fin - b.una) = r at *
  go_enter Try.func38, Try.ntmps38
  go_wp2_with (go_at_call 47; refine K.out.mono ?_; rintro e w1 ⟨rfl, n1, rfl⟩)
  go_ret
  exact ⟨rfl, _, rfl⟩
theorem write_range (g rb : Nat) (b : Buf) (A : Option Addr) (n c : Nat) (w : World) (h : IsBuf w g rb b) (h1 : (n : Int) ≤ (b.ring.length : Int) - (b.fin - b.una)) (h2 : 4611686018427387904 - b.fin < n) : Calls Try.prog 38 #[.pointer (some ⟨g, 0, Option.none⟩), .slice A n c] w (Quiet w (.int .i64 3)) := by
  have K := Lib.hid (room_calls g rb b w h)
  have c2 : w.cell? ⟨g, 2, Option.none⟩ = some (.int .i64 b.fin) := h.box.cell 2
  have s1 : IntKind.i64.wrap (4611686018427387904 - b.fin) = 4611686018427387904 - b.fin := IntWalk.i64_in _ (by have := h.ok.u0; have := h.ok.u1; have := h.ok.u2; omega)
  clear h
  generalize (b.ring.length : Int) - (b.fin - b.una) = r at *
  have h3 : ¬ r < (n : Int) := by omega
  go_enter Try.func38, Try.ntmps38
  go_wp2_with (go_at_call 47; refine K.out.mono ?_; rintro e w1 ⟨rfl, n1, rfl⟩; have c2 : (w.drewN n1).cell? ⟨g, 2, Option.none⟩ = some (.int .i64 b.fin) := c2)
  go_ret
  exact ⟨rfl, _, rfl⟩
theorem ring_cell {w w' : World} {rb g : Nat} (hr : Ring w w' rb) (hne : g ≠ rb) (j : Nat) : w'.cell? ⟨g, j, Option.none⟩ = w.cell? ⟨g, j, Option.none⟩ := by
  unfold World.cell?
  have := hr.block g hne
  simp only [this]
set_option maxRecDepth 100000 in
set_option maxHeartbeats 4000000 in
theorem write_ok (g rb : Nat) (b : Buf) (p : List Int) (A : Option Addr) (c : Nat) (w : World) (h : IsBuf w g rb b) (hc : p.length ≤ c) (hR : Reps w A 1 encB p) (hne : p ≠ [] → ∀ a, A = some a → a.block ≠ rb)
    (h1 : (p.length : Int) ≤ (b.ring.length : Int) - (b.fin - b.una)) (h2 : b.fin + p.length ≤ 4611686018427387904) :
    Calls Try.prog 38 #[.pointer (some ⟨g, 0, Option.none⟩), .slice A p.length c] w (Turns w g rb ⟨b.una, b.fin + p.length, put b.ring (at_ b b.fin) (upto_ b b.fin p.length) p, b.cap⟩ (.int .i64 0)) := by
  have hk0 := h.ok.n0
  have hk1 := h.ok.n1
  have hk2 := h.ok.u0
  have hk3 := h.ok.u1
  have hk4 := h.ok.u3
  have hpn : p.length ≤ b.ring.length := by omega
  have K := Lib.hid (room_calls g rb b w h)
  have P := Lib.hid (fun n => pieces_calls g rb b b.fin p.length (w.drewN n) (h.drewN n) (by omega) hpn)
  have c2 : w.cell? ⟨g, 2, Option.none⟩ = some (.int .i64 b.fin) := h.box.cell 2
  have fz := h.box.frozen
  have hlt := at_lt h.ok b.fin
  have hu : upto_ b b.fin p.length = min p.length (b.ring.length - at_ b b.fin) := rfl
  have H := Lib.hid h
  have R := Lib.hid (And.intro hR hne)
  have ring := Lib.hid h.ring
  have hgr := h.ne
  obtain ⟨N, hN⟩ : ∃ N, b.ring.length = N := ⟨_, rfl⟩
  have HN := Lib.hid hN
  obtain ⟨n, hn⟩ : ∃ n, p.length = n := ⟨_, rfl⟩
  have Hn := Lib.hid hn
  clear h hR hne
  rw [hN] at hk0 hk1 hk4 hpn h1 hlt hu
  rw [hn] at hpn h1 h2 hu hc P ⊢
  unfold slc at ring
  rw [hN] at ring K
  generalize at_ b b.fin = a at *
  generalize upto_ b b.fin n = k at *
  have HU := Lib.hid hu
  have kn : k ≤ n := by omega
  have ak : a + k ≤ N := by omega
  have kz : 0 ≤ (k : Int) := by omega
  have kni : (k : Int) ≤ (n : Int) := by omega
  have f1 : (n : Int) ≤ 65536 := by omega
  have s1 : IntKind.i64.wrap (4611686018427387904 - b.fin) = 4611686018427387904 - b.fin := IntWalk.i64_in _ (by omega)
  have s2 : IntKind.i64.wrap (b.fin + (n : Int)) = b.fin + (n : Int) := IntWalk.i64_in _ (by omega)
  have g1 : ¬ (N : Int) - (b.fin - b.una) < (n : Int) := by omega
  have g2 : ¬ 4611686018427387904 - b.fin < (n : Int) := by omega
  clear hn hN hu
  generalize hroom : (N : Int) - (b.fin - b.una) = room at *
  have HK_room := Lib.hid hroom
  clear hroom
  go_enter Try.func38, Try.ntmps38
  go_wp2_with (go_at_call 47; refine K.out.mono ?_; rintro e w1 ⟨rfl, n1, rfl⟩; have c2 : (w.drewN n1).cell? ⟨g, 2, Option.none⟩ = some (.int .i64 b.fin) := c2)
  go_wp2_with (first
    | (go_at_call 68; refine (P.out _).mono ?_; rintro e w1 ⟨rfl, n2, rfl⟩)
    | (refine wpList_copy_ring (o := ⟨some 40, _, _, _, _, _⟩) (by rfl) (.tmp 38) (.tmp 39) (by rfl) rb N b.cap a k b.ring HN.out (ring.out.below ⟨rfl, rfl, rfl, Nat.le_refl _, fun _ _ => rfl⟩) (by rfl) A n c p Hn.out (by rfl) (R.out.1.below ⟨rfl, rfl, rfl, Nat.le_refl _, fun _ _ => rfl⟩) ak k (by omega) ?_; intro w2 hr2 hg2; have HR2 := Lib.hid hr2; have HG2 := Lib.hid hg2; clear hr2 hg2)
    | (refine wpList_copy_ring (o := ⟨some 42, _, _, _, _, _⟩) (by rfl) (.tmp 36) (.tmp 41) (by rfl) rb N b.cap 0 (n - k) _ (by rw [length_splice _ _ _ (by rw [HN.out, List.length_take]; omega)]; exact HN.out) HR2.out (by rfl) (Aim A c k) (n - k) (c - k) (p.drop k) (by rw [List.length_drop, Hn.out]) (by rfl) (reps_ring (w := w.drewN (n1 + n2)) (reps_from (R.out.1.below ⟨rfl, rfl, rfl, Nat.le_refl _, fun _ _ => rfl⟩) (by rw [Hn.out]; exact hc)) HG2.out (fun hx ad e => by
      have hp0 : p ≠ [] := fun h => hx (by rw [h]; simp)
      unfold Aim at e
      split at e
      · exact R.out.2 hp0 ad e
      · obtain ⟨a0, e1, rfl⟩ := Option.map_eq_some_iff.1 e
        have := R.out.2 hp0 a0 e1
        unfold Addr.add; split <;> exact this)) (by omega) (n - k) (by omega) ?_; intro w3 hr3 hg3; have HR3 := Lib.hid hr3; have HG3 := Lib.hid (ring_trans HG2.out hg3); have d2 := (ring_cell HG3.out hgr 2).trans c2; have B3 := Lib.hid (show Blk w3 g 111 _ from (HG3.out.block g hgr).trans H.out.box); have fz3 := B3.out.frozen; clear hr3 hg3))
  go_ret
  have hp : put b.ring a k p = splice (splice b.ring a (List.take k p)) 0 (List.take (n - k) (List.drop k p)) := by
    have e0 : List.take (n - k) (List.drop k p) = List.drop k p := List.take_of_length_le (by rw [List.length_drop, Hn.out]; exact Nat.le_refl _)
    rw [e0]; rfl
  have hl : (put b.ring a k p).length = N := by rw [length_put _ _ _ _ (by rw [HN.out]; exact ak) (by rw [Hn.out, HN.out]; omega)]; exact HN.out
  have hk := H.out.ok
  refine ⟨rfl, ⟨(B3.out.set_ 2 _).eq ?_, ?_, hgr, ⟨?_, ?_, hk.u0, ?_, h2, ?_⟩⟩, ?_⟩
  · simp [bcells, slc, hl, HN.out]
  · have : slc rb ⟨b.una, b.fin + n, put b.ring a k p, b.cap⟩ = .slice (some ⟨rb, 0, Option.none⟩) N b.cap := by simp [slc, hl]
    rw [this, hp]
    refine HR3.out.same fun j e => Below.heap_setCell _ _ _ j (fun e2 => ?_)
    have e3 : rb = j := by simpa [Value.ownBlock] using e
    exact hgr (e2.symm.trans e3.symm)
  · rw [hl]; exact hk0
  · rw [hl]; exact hk1
  · simp only; omega
  · have := HK_room.out
    simp only [hl]; omega
  · have hG := HG3.out
    have hK : Kept w w3 g (slc rb ⟨b.una, b.fin + n, put b.ring a k p, b.cap⟩) := ⟨hG.os, hG.tape, hG.output, Nat.le_of_eq hG.size.symm, fun j hj h1 h2 => hG.block j (fun e => h2 (by rw [e]; rfl))⟩
    exact kept_set hK _ _
end Go.Proofs.Ytaokiocpfpdmkaa.Buff
