/- The plain side of FogLouder: distances, and places at which a blast is heard. No program stands here. -/
import Derived.Test.YtlonpgbapiemcaaGreatFMadeP
import Derived.Test.YtlonpgbapiemcaaGreatG5
namespace Go.Proofs.YtlonpgbapiemcaaGreat
open Go Go.RowKit
set_option linter.unusedVariables false
set_option linter.unusedSimpArgs false

/-- A distance as the law keeps it: 1000 where no way leads. -/
def louV (f : Fg) (a b : Nat) : Int := if farM f a b = 100 then 1000 else farM f a b
section
variable {f : Fg} {a b c : Nat}
theorem lou_lo (h : FogOK f) (ha : a < 8) (hb : b < 8) : 0 ≤ louV f a b ∧ louV f a b ≤ 1000 := by
  have h1 := (far_ok h).dst.lo a b ha hb
  have h2 := (far_ok h).dst.hi a b ha hb
  unfold noWay at h2
  unfold louV
  split <;> omega
theorem far_one (h : FogOK f) (ha : a < 8) (hb : b < 8) (hab : a ≠ b) : 1 ≤ farM f a b := by
  have h1 := (far_ok h).dst.lo a b ha hb
  refine Int.not_lt.1 fun e => hab ?_
  have h2 := ((far_ok h).iff h ha hb (n := 0) (by unfold noWay; omega)).2 (by omega)
  cases h2; rfl
theorem lou_zero (h : FogOK f) (ha : a < 8) (hb : b < 8) : (louV f a b == 0) = (a == b) := by
  rw [Bool.eq_iff_iff, beq_iff_eq, beq_iff_eq]
  unfold louV
  by_cases e : a = b
  · subst e
    rw [(far_ok h).dst.self a ha]; simp
  · have := far_one h ha hb e
    simp only [e, iff_false]
    split <;> omega
theorem besideL_iff {l : List (Int × Int)} {a b : Nat} : besideL l (a : Int) (b : Int) = true ↔ ∃ t ∈ l, (t.1 = (a : Int) ∧ t.2 = (b : Int)) ∨ (t.1 = (b : Int) ∧ t.2 = (a : Int)) := by
  unfold besideL
  simp only [List.any_eq_true, Bool.or_eq_true, Bool.and_eq_true, beq_iff_eq]
/-- Places a track apart. -/
theorem near_beside (h : FogOK f) (ha : a < 8) (hb : b < 8) (hab : a ≠ b) (e : farM f a b ≤ 1) : besideL f.tr (a : Int) (b : Int) = true := by
  have h2 := ((far_ok h).iff h ha hb (n := 0 + 1) (by unfold noWay; omega)).2 (by omega)
  cases h2 with
  | stay q => cases q; exact absurd rfl hab
  | step q e =>
    cases q
    obtain ⟨t, ht, e⟩ := e
    exact besideL_iff.2 ⟨t, ht, e⟩
theorem lou_one (h : FogOK f) (ha : a < 8) (hb : b < 8) : (louV f a b == 1) = besideL f.tr (a : Int) (b : Int) := by
  rw [Bool.eq_iff_iff, beq_iff_eq]
  unfold louV
  constructor
  · intro e
    by_cases hab : a = b
    · subst hab
      rw [(far_ok h).dst.self a ha] at e; simp at e
    · exact near_beside h ha hb hab (by split at e <;> omega)
  · intro e
    have h1 := besideL_far h ha hb e
    have hab : a ≠ b := fun e2 => by
      obtain ⟨t, ht, h3⟩ := besideL_iff.1 e
      have := h.tr t ht
      omega
    have := far_one h ha hb hab
    rw [if_neg (by omega)]; omega
theorem lou_symm (h : FogOK f) (ha : a < 8) (hb : b < 8) : louV f a b = louV f b a := by
  unfold louV
  rw [(far_ok h).symm h ha hb]
theorem lou_tri (h : FogOK f) (ha : a < f.pl.toNat) (hb : b < f.pl.toNat) (hc : c < f.pl.toNat) (h1 : louV f a b < 1000) (h2 : louV f b c < 1000) : louV f a c ≤ louV f a b + louV f b c := by
  have hp := h.pl
  have h3 := (far_ok h).tri a c b (by omega) (by omega) (by omega)
  have b1 := (far_ok h).dst.hi a b (by omega) (by omega)
  have b2 := (far_ok h).dst.hi b c (by omega) (by omega)
  have b3 := (far_ok h).dst.hi a c (by omega) (by omega)
  have k1 := fun e => far_lt (far_ok h) h ha hb e
  have k2 := fun e => far_lt (far_ok h) h hb hc e
  unfold louV noWay at *
  split at h1
  · omega
  · split at h2
    · omega
    · have := k1 (by omega)
      have := k2 (by omega)
      split <;> omega
end
/-! ### The places at which a blast is heard -/
def louL (f : Fg) (p : Nat) (y : Int) : List Int := natI ((List.range f.pl.toNat).filter fun q => decide (farM f p q ≤ y))
theorem lou_mem {f : Fg} {p q : Nat} {y : Int} (hq : q < f.pl.toNat) (hy : y < 100) : memI (q : Int) (louL f p y) = decide (louV f p q ≤ y) := by
  rw [Bool.eq_iff_iff, mem_memI, decide_eq_true_eq]
  unfold louL natI louV
  rw [List.mem_map]
  constructor
  · rintro ⟨x, hx, e⟩
    obtain rfl : x = q := by omega
    have := (List.mem_filter.1 hx).2
    rw [decide_eq_true_eq] at this
    rw [if_neg (by omega)]; exact this
  · intro e
    refine ⟨q, List.mem_filter.2 ⟨List.mem_range.2 hq, ?_⟩, rfl⟩
    rw [decide_eq_true_eq]
    split at e <;> omega
theorem lou_more {f : Fg} {p : Nat} {y y' : Int} (hy : y ≤ y') : ∀ x ∈ louL f p y, memI x (louL f p y') = true := by
  intro x hx
  rw [mem_memI]
  unfold louL natI at hx ⊢
  obtain ⟨q, hq, rfl⟩ := List.mem_map.1 hx
  obtain ⟨h1, h2⟩ := List.mem_filter.1 hq
  rw [decide_eq_true_eq] at h2
  exact List.mem_map.2 ⟨q, List.mem_filter.2 ⟨h1, by rw [decide_eq_true_eq]; omega⟩, rfl⟩
/-- The fog with a blast that is so loud. -/
def louF (f : Fg) (i : Nat) (b : Bl) (y : Int) : Fg := { f with bl := f.bl.set i ⟨b.mi, b.pl, y⟩ }
theorem louF_ok {f : Fg} (h : FogOK f) {i : Nat} {b : Bl} (hi : f.bl[i]? = some b) {y : Int} (hy : 0 ≤ y ∧ y ≤ 7) : FogOK (louF f i b y) where
  pl := h.pl
  mi := h.mi
  tn := h.tn
  bn := by unfold louF; simp only [List.length_set]; exact h.bn
  cn := h.cn
  tr := h.tr
  bl := fun x hx => by
    have hb := h.bl b (List.mem_of_getElem? hi)
    rcases mem_set hx with rfl | hx
    · exact ⟨hb.1, hb.2.1, hy⟩
    · exact h.bl x hx
  st := h.st
  rp := fun c hc r hr => by
    have := h.rp c hc r hr
    unfold louF; simp only [List.length_set]; exact this
  rn := h.rn
  ra := h.ra
  ne := h.ne
  asc := h.asc
theorem louF_hears {f : Fg} (h : FogOK f) (ha : agT f = false) {i : Nat} {b : Bl} (hi : f.bl[i]? = some b) {y : Int} (hy : 0 ≤ y ∧ y ≤ 7) : hearsE (louF f i b y) (i : Int) = 0 ∧ hearsL (louF f i b y) (i : Int) = louL f b.pl.toNat y := by
  have hl := (List.getElem?_eq_some_iff.1 hi).1
  have hc : checkF (louF f i b y) = 0 := check_of (louF_ok h hi hy) ha
  have e : hearsE (louF f i b y) (i : Int) = 0 := by
    unfold hearsE
    rw [if_neg (fun x => x hc), if_pos]
    unfold blOK louF
    rw [inB_iff]
    simp only [List.length_set]
    omega
  refine ⟨e, ?_⟩
  unfold hearsL louL
  rw [if_pos e]
  have e2 : blAt (louF f i b y) (i : Int) = ⟨b.mi, b.pl, y⟩ := blAt_get (by
    unfold louF
    rw [Int.toNat_natCast, List.getElem?_set_self hl])
  rw [e2]
  rfl
theorem louF_far (f : Fg) (i : Nat) (b : Bl) (y : Int) : farM (louF f i b y) = farM f := rfl
end Go.Proofs.YtlonpgbapiemcaaGreat
