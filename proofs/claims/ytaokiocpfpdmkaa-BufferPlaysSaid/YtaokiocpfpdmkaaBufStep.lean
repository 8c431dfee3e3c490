/- Chapter 21 (buffer): an operation of the document and of the buffer, told alike. -/
import Derived.Test.YtaokiocpfpdmkaaBufEqual
set_option linter.unusedSimpArgs false
set_option linter.unusedVariables false
attribute [local go_sem ↓] Go.wp_at_zero Go.wp_at_succ
namespace Go.Proofs.Ytaokiocpfpdmkaa.Buff
open Go.BigFrame Go.RowKit Go.OpenShut Go.Proofs.Ytaokiocpfpdmkaa.Aid Go.Proofs.Ytaokiocpfpdmkaa.Spans
open Led (Kept kept_refl kept_set kept_drewN kept_drew kept_below below_kept)
/-- The document's bytes, far from some blocks. -/
structure DocOk (w : World) (Z : Nat → Prop) (B : List Int) (A : Option Addr) (c : Nat) : Prop where
  cap : B.length ≤ c
  nil : A = Option.none → c = 0
  reps : Reps w A 1 encB B
  far : B ≠ [] → ∀ a, A = some a → ¬ Z a.block
theorem DocOk.below {w w' : World} {Z : Nat → Prop} {B : List Int} {A : Option Addr} {c : Nat} (h : DocOk w Z B A c) (hb : Below w.heap.size w w') : DocOk w' Z B A c := ⟨h.cap, h.nil, h.reps.below hb, h.far⟩
theorem reps_kept {w w' : World} {g rb : Nat} {b : Buf} {A : Option Addr} {xs : List Int} (h : Reps w A 1 encB xs) (hk : Kept w w' g (slc rb b)) (hne : xs ≠ [] → ∀ a, A = some a → a.block ≠ g ∧ a.block ≠ rb) : Reps w' A 1 encB xs := by
  intro i x hx
  obtain ⟨ad, rfl, had, hc⟩ := h i x hx
  refine ⟨ad, rfl, Nat.lt_of_lt_of_le had hk.size, fun j v hv => ?_⟩
  rw [← hc j v hv]
  unfold World.cell?
  have e : (ad.add (i * 1 + j)).block = ad.block := by unfold Addr.add; split <;> rfl
  have hn := hne (fun h => by rw [h] at hx; simp at hx) ad rfl
  have := hk.block (ad.add (i * 1 + j)).block (by rw [e]; exact had) (by rw [e]; exact hn.1) (fun e2 => by
    have e3 : rb = (ad.add (i * 1 + j)).block := by simpa [slc, Value.ownBlock] using e2
    rw [e] at e3
    exact hn.2 e3.symm)
  rw [this]
theorem DocOk.kept {w w' : World} {Z : Nat → Prop} {g rb : Nat} {b : Buf} {B : List Int} {A : Option Addr} {c : Nat} (h : DocOk w Z B A c) (hk : Kept w w' g (slc rb b)) (hg : Z g) (hr : Z rb) : DocOk w' Z B A c :=
  ⟨h.cap, h.nil, reps_kept h.reps hk (fun hB a ha => ⟨fun e => h.far hB a ha (e ▸ hg), fun e => h.far hB a ha (e ▸ hr)⟩), h.far⟩
/-- A buffer holds the document's bytes. -/
def BufOk (w : World) (g rb : Nat) (una : Int) (most : Nat) (B : List Int) : Prop := ∃ b, IsBuf w g rb b ∧ Holds b una most B
theorem BufOk.below {w w' : World} {g rb : Nat} {una : Int} {most : Nat} {B : List Int} (h : BufOk w g rb una most B) (hb : Below w.heap.size w w') : BufOk w' g rb una most B := by
  obtain ⟨b, h1, h2⟩ := h
  exact ⟨b, h1.below hb, h2⟩
/-- What comes of the document's call. -/
def DStep (w : World) (Z : Nat → Prop) (una : Int) (most : Nat) (B : List Int) (r : Int) (e : Ending) (w' : World) : Prop :=
  ∃ A c, e = .returned (.tuple #[dval una most (.slice A B.length c), .int .i64 r]) ∧ DocOk w' Z B A c ∧ Below w.heap.size w w'
/-- What comes of the buffer's call. -/
def BStep (w : World) (g rb : Nat) (una : Int) (most : Nat) (B : List Int) (r : Int) (e : Ending) (w' : World) : Prop :=
  e = .returned (.int .i64 r) ∧ BufOk w' g rb una most B ∧ ∃ b, Kept w w' g (slc rb b)
def wres (una : Int) (most : Nat) (B p : List Int) : Int × List Int :=
  if (most : Int) - B.length < p.length then (4, B) else if 4611686018427387904 - una - B.length < p.length then (3, B) else (0, B ++ p)
def fres (una : Int) (B : List Int) (t : Int) : Int × Int × List Int :=
  if t < una then (11, una, B) else if una + B.length < t then (12, una, B) else (0, t, B.drop (t - una).toNat)
theorem wd_calls (Z : Nat → Prop) (g rb : Nat) (una : Int) (most : Nat) (B p : List Int) (A D : Option Addr) (c d : Nat) (w : World) (hb : BufOk w g rb una most B) (hd : DocOk w Z B A c) (hZ : ∀ x, Z x → x < w.heap.size) (hD : D = Option.none → d = 0) (hR : Reps w D 1 encB p) :
    Calls Try.prog 71 #[dval una most (.slice A B.length c), .slice D p.length d] w (DStep w Z una most (wres una most B p).2 (wres una most B p).1) := by
  obtain ⟨b, h, hh⟩ := hb
  have e1 := hh.hu
  have e2 := hh.hf
  have e3 := hh.hm
  have o0 := h.ok.n1
  have o1 := h.ok.u0
  have o2 := h.ok.u2
  have o3 := h.ok.u3
  unfold wres
  by_cases h1 : (most : Int) - B.length < p.length
  · rw [if_pos h1]
    refine (rwrite_full una most A D B.length c p.length d w (by omega) (by omega) (by omega) h1).mono ?_
    rintro e w' ⟨rfl, b1⟩
    exact ⟨A, c, rfl, hd.below b1, b1⟩
  · rw [if_neg h1]
    by_cases h2 : 4611686018427387904 - una - B.length < p.length
    · rw [if_pos h2]
      refine (rwrite_range una most A D B.length c p.length d w (by omega) (by omega) (by omega) (by omega) (by omega) (by omega) h2).mono ?_
      rintro e w' ⟨rfl, b1⟩
      exact ⟨A, c, rfl, hd.below b1, b1⟩
    · rw [if_neg h2]
      refine (rwrite_ok una most A D B.length c p.length d B p w (by omega) (by omega) (by omega) (by omega) (by omega) (by omega) (by omega) rfl rfl hd.nil hD hd.reps hR).mono ?_
      rintro e w' ⟨v, rfl, r1, b1, o1⟩
      obtain ⟨A', c', rfl, hc', hR'⟩ := r1.reps encB_len
      refine ⟨A', c', rfl, ⟨hc', fun h => ?_, hR', fun _ a ha => ?_⟩, b1⟩
      · subst h
        obtain ⟨h0, _⟩ | ⟨_, _, _, h0, _⟩ := r1
        · injection h0 with _ _ h3
        · injection h0 with h0; cases h0
      · subst ha
        obtain ⟨h0, _⟩ | ⟨b', _, _, h0, _⟩ := r1
        · injection h0 with h0; cases h0
        · injection h0 with h0
          obtain rfl : a = ⟨b', 0, Option.none⟩ := by simpa using h0
          have := o1 b' (by simp [Value.ownBlock])
          intro hz
          have := hZ _ hz
          simp only at this
          omega
theorem wb_calls (g rb : Nat) (una : Int) (most : Nat) (B p : List Int) (D : Option Addr) (d : Nat) (w : World) (hb : BufOk w g rb una most B) (hd : p.length ≤ d) (hR : Reps w D 1 encB p) (hne : p ≠ [] → ∀ a, D = some a → a.block ≠ rb) :
    Calls Try.prog 38 #[.pointer (some ⟨g, 0, Option.none⟩), .slice D p.length d] w (BStep w g rb una most (wres una most B p).2 (wres una most B p).1) := by
  obtain ⟨b, h, hh⟩ := hb
  have e1 := hh.hu
  have e2 := hh.hf
  have e3 := hh.hm
  have o2 := h.ok.u2
  have o3 := h.ok.u3
  unfold wres
  by_cases h1 : (most : Int) - B.length < p.length
  · rw [if_pos h1]
    refine (write_full g rb b D p.length d w h (by omega)).mono ?_
    rintro e w' ⟨rfl, n, rfl⟩
    exact ⟨rfl, ⟨b, h.drewN n, hh⟩, b, kept_drewN (kept_refl _ _ _) _⟩
  · rw [if_neg h1]
    by_cases h2 : 4611686018427387904 - una - B.length < p.length
    · rw [if_pos h2]
      refine (write_range g rb b D p.length d w h (by omega) (by omega)).mono ?_
      rintro e w' ⟨rfl, n, rfl⟩
      exact ⟨rfl, ⟨b, h.drewN n, hh⟩, b, kept_drewN (kept_refl _ _ _) _⟩
    · rw [if_neg h2]
      refine (write_ok g rb b p D d w h hd hR hne (by omega) (by omega)).mono ?_
      rintro e w' ⟨rfl, h', k'⟩
      exact ⟨rfl, ⟨_, h', holds_write hh h.ok p (by omega)⟩, _, k'⟩
theorem fd_calls (Z : Nat → Prop) (g rb : Nat) (una : Int) (most : Nat) (B : List Int) (t : Int) (A : Option Addr) (c : Nat) (w : World) (hb : BufOk w g rb una most B) (hd : DocOk w Z B A c) :
    Calls Try.prog 72 #[dval una most (.slice A B.length c), .int .i64 t] w (DStep w Z (fres una B t).2.1 most (fres una B t).2.2 (fres una B t).1) := by
  obtain ⟨b, h, hh⟩ := hb
  have e1 := hh.hu
  have e2 := hh.hf
  have e3 := hh.hm
  have o0 := h.ok.n1
  have o1 := h.ok.u0
  have o2 := h.ok.u2
  have o3 := h.ok.u3
  unfold fres
  by_cases h1 : t < una
  · rw [if_pos h1]
    refine (rfree_old una most t A B.length c w h1).mono ?_
    rintro e w' ⟨rfl, b1⟩
    exact ⟨A, c, rfl, hd.below b1, b1⟩
  · rw [if_neg h1]
    by_cases h2 : una + B.length < t
    · rw [if_pos h2]
      refine (rfree_ahead una most t A B.length c w (by omega) (by omega) (by omega) (by omega) h2).mono ?_
      rintro e w' ⟨rfl, b1⟩
      exact ⟨A, c, rfl, hd.below b1, b1⟩
    · rw [if_neg h2]
      refine (rfree_ok una most t A B.length c (t - una).toNat w (by omega) (by omega) (by omega) (by omega) (by omega) (by omega)).mono ?_
      rintro e w' ⟨rfl, b1⟩
      have hc := hd.cap
      refine ⟨Aim A c (t - una).toNat, c - (t - una).toNat, by rw [List.length_drop], ⟨by rw [List.length_drop]; omega, fun h => ?_, reps_from (hd.reps.below b1) hc, fun hx a ha => ?_⟩, b1⟩
      · unfold Aim at h
        split at h
        · have := hd.nil h; omega
        · have := hd.nil (by simpa using h); omega
      · have hB : B ≠ [] := fun h => hx (by rw [h]; simp)
        unfold Aim at ha
        split at ha
        · exact hd.far hB a ha
        · obtain ⟨a0, h3, rfl⟩ := Option.map_eq_some_iff.1 ha
          have := hd.far hB a0 h3
          unfold Addr.add
          split <;> exact this
theorem fb_calls (g rb : Nat) (una : Int) (most : Nat) (B : List Int) (t : Int) (w : World) (hb : BufOk w g rb una most B) :
    Calls Try.prog 39 #[.pointer (some ⟨g, 0, Option.none⟩), .int .i64 t] w (BStep w g rb (fres una B t).2.1 most (fres una B t).2.2 (fres una B t).1) := by
  obtain ⟨b, h, hh⟩ := hb
  have e1 := hh.hu
  have e2 := hh.hf
  unfold fres
  by_cases h1 : t < una
  · rw [if_pos h1]
    refine (free_old g rb b t w h (by omega)).mono ?_
    rintro e w' ⟨rfl, rfl⟩
    exact ⟨rfl, ⟨b, h, hh⟩, b, kept_refl _ _ _⟩
  · rw [if_neg h1]
    by_cases h2 : una + B.length < t
    · rw [if_pos h2]
      refine (free_ahead g rb b t w h (by omega) (by omega)).mono ?_
      rintro e w' ⟨rfl, rfl⟩
      exact ⟨rfl, ⟨b, h, hh⟩, b, kept_refl _ _ _⟩
    · rw [if_neg h2]
      refine (free_ok g rb b t w h (by omega) (by omega)).mono ?_
      rintro e w' ⟨rfl, h', k'⟩
      exact ⟨rfl, ⟨_, h', holds_free hh t (by omega) (by omega)⟩, _, k'⟩
end Go.Proofs.Ytaokiocpfpdmkaa.Buff
