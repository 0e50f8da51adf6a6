/- The ring of a blast by going on from place to place is told by distances. No program stands here. -/
import Derived.Test.YtlonpgbapiemcaaGreatFBool
import Derived.Test.YtlonpgbapiemcaaGreatG1
namespace Go.Proofs.YtlonpgbapiemcaaGreat
open Go Go.RowKit
set_option linter.unusedVariables false
set_option linter.unusedSimpArgs false

/-- One track of a round of ring: `bef` is what stood before the round. -/
def ringT (bef : Nat → Bool) (out : Nat → Bool) (t : Int × Int) : Nat → Bool :=
  upd1 (upd1 out t.1.toNat (out t.1.toNat || bef t.2.toNat)) t.2.toNat (out t.2.toNat || bef t.1.toNat)
/-- A round of ring. -/
def ringL (bef : Nat → Bool) (l : List (Int × Int)) : Nat → Bool := l.foldl (ringT bef) bef
/-- So many rounds of ring. -/
def ringN (f : Fg) (from_ : Nat) : Nat → Nat → Bool
  | 0 => upd1 (fun _ => false) from_ true
  | k + 1 => ringL (ringN f from_ k) f.tr
theorem ringT_at {bef out : Nat → Bool} {t : Int × Int} (ht : t.1.toNat ≠ t.2.toNat) (p : Nat) :
    ringT bef out t p = (out p || (decide (p = t.1.toNat) && bef t.2.toNat) || (decide (p = t.2.toNat) && bef t.1.toNat)) := by
  unfold ringT upd1
  by_cases h1 : p = t.2.toNat
  · have h2 : p ≠ t.1.toNat := fun e => ht (e.symm.trans h1)
    subst h1
    simp [h2]
  · by_cases h2 : p = t.1.toNat
    · subst h2
      simp [h1]
    · simp [h1, h2]
theorem ringF_iff {bef : Nat → Bool} (l : List (Int × Int)) (hl : ∀ t ∈ l, t.1.toNat ≠ t.2.toNat) (out : Nat → Bool) (p : Nat) :
    l.foldl (ringT bef) out p = true ↔ out p = true ∨ ∃ t ∈ l, (p = t.1.toNat ∧ bef t.2.toNat = true) ∨ (p = t.2.toNat ∧ bef t.1.toNat = true) := by
  induction l generalizing out with
  | nil => simp
  | cons t l ih =>
    rw [List.foldl_cons, ih (fun x hx => hl x (by simp [hx])), ringT_at (hl t (by simp))]
    simp only [Bool.or_eq_true, Bool.and_eq_true, decide_eq_true_eq, List.mem_cons, exists_eq_or_imp]
    constructor
    · rintro (((h | h) | h) | h)
      · exact .inl h
      · exact .inr (.inl (.inl h))
      · exact .inr (.inl (.inr h))
      · exact .inr (.inr h)
    · rintro (h | (h | h) | h)
      · exact .inl (.inl (.inl h))
      · exact .inl (.inl (.inr h))
      · exact .inl (.inr h)
      · exact .inr h
theorem ringN_iff {f : Fg} (h : FogOK f) {a : Nat} : ∀ (k p : Nat), ringN f a k p = true ↔ Go_ f k a p
  | 0, p => by
    unfold ringN upd1
    constructor
    · intro h
      split at h
      · rename_i e; subst e; exact .here _
      · cases h
    · intro h
      cases h
      simp
  | k + 1, p => by
    unfold ringN ringL
    rw [ringF_iff _ (tr_nat h)]
    constructor
    · rintro (h1 | ⟨t, ht, ⟨e, h1⟩ | ⟨e, h1⟩⟩)
      · exact ((ringN_iff h k p).1 h1).stay
      · have h2 := (ringN_iff h k _).1 h1
        have h3 := h.tr t ht
        exact h2.step ⟨t, ht, .inr ⟨by omega, by omega⟩⟩
      · have h2 := (ringN_iff h k _).1 h1
        have h3 := h.tr t ht
        exact h2.step ⟨t, ht, .inl ⟨by omega, by omega⟩⟩
    · intro hg
      cases hg with
      | stay q => exact .inl ((ringN_iff h k p).2 q)
      | step q ha =>
        obtain ⟨t, ht, ⟨e1, e2⟩ | ⟨e1, e2⟩⟩ := ha
        · refine .inr ⟨t, ht, .inr ⟨by omega, ?_⟩⟩
          rw [show t.1.toNat = _ from by rw [e1, Int.toNat_natCast]]
          exact (ringN_iff h k _).2 q
        · refine .inr ⟨t, ht, .inl ⟨by omega, ?_⟩⟩
          rw [show t.2.toNat = _ from by rw [e2, Int.toNat_natCast]]
          exact (ringN_iff h k _).2 q
/-- The ring is where the blast is heard. -/
theorem ringN_is {f : Fg} (h : FogOK f) {a k p : Nat} (ha : a < 8) (hp : p < 8) (hk : k < 100) : ringN f a k p = decide (farM f a p ≤ (k : Int)) := by
  rw [Bool.eq_iff_iff, decide_eq_true_eq, ringN_iff h, (far_ok h).iff h ha hp (by unfold noWay; omega)]
theorem ringN_heard {f : Fg} (h : FogOK f) {b : Bl} (hb : b ∈ f.bl) {p : Nat} (hp : p < 8) : ringN f b.pl.toNat b.lo.toNat p = heardM (farM f) b p := by
  have h1 := h.bl b hb
  have h2 := h.pl
  rw [ringN_is h (by omega) hp (by omega)]
  unfold heardM
  rw [Int.toNat_of_nonneg h1.2.2.1]
end Go.Proofs.YtlonpgbapiemcaaGreat
