/- The plain side of FogFound and FogAsked: walks that are tried, places that a choice tells apart, the best blast. No program stands here. -/
import Derived.Test.YtlonpgbapiemcaaGreatFTripP
import Derived.Test.YtlonpgbapiemcaaGreatFLouP
import Derived.Test.YtlonpgbapiemcaaGreatGa
import Derived.Test.YtlonpgbapiemcaaGreatFClaP
namespace Go.Proofs.YtlonpgbapiemcaaGreat
open Go Go.RowKit
set_option linter.unusedVariables false
set_option linter.unusedSimpArgs false

/-! ### Walks that fit go rightly -/
theorem fits_pl {f : Fg} {c : Ct} {l : List Int} (hl : fitsM (farM f) f c l = true) : l.length = f.mi.toNat + 1 ∧ (∀ x ∈ l, 0 ≤ x ∧ x < f.pl) ∧ memI (l.getD 0 0) c.st = true ∧ heardAll (farM f) f c l = true := by
  unfold fitsM at hl
  simp only [Bool.and_eq_true, decide_eq_true_eq] at hl
  obtain ⟨⟨⟨⟨h1, h2⟩, h3⟩, h4⟩, h5⟩ := hl
  rw [List.all_eq_true] at h2
  exact ⟨h1, fun x hx => plOK_iff2.1 (h2 x hx), h3, h5⟩
theorem fits_near {f : Fg} {c : Ct} {l : List Int} (h : FogOK f) (hc : c ∈ f.ct) (hl : fitsM (farM f) f c l = true) {k : Nat} {x y : Int} (hx : l[k]? = some x) (hy : l[k + 1]? = some y) (hne : x ≠ y) : besideL f.tr x y = true := by
  have hp := h.pl
  obtain ⟨h1, -⟩ := fits_pl hl
  have hk := (List.getElem?_eq_some_iff.1 hy).1
  obtain ⟨a1, a2, -⟩ := fits_at h hc hl (m := k) (by omega)
  obtain ⟨b1, b2, -⟩ := fits_at h hc hl (m := k + 1) (by omega)
  rw [List.getD_eq_getElem?_getD, hx] at a2
  rw [List.getD_eq_getElem?_getD, hy] at b2
  have e1 : x = (wlAt l k : Int) := a2
  have e2 : y = (wlAt l (k + 1) : Int) := b2
  rw [e1, e2]
  exact near_beside h (by omega) (by omega) (fun e => hne (by rw [e1, e2, e])) (fits_step h hc hl (by omega))
/-- A walk that goes rightly fits just if it hears what its cart says. -/
theorem real_iff {f : Fg} (h : FogOK f) {c : Ct} {l : List Int} (hw : RealW f c l) : fitsM (farM f) f c l = heardAll (farM f) f c l := by
  have h1 := real_fits h (c := ⟨c.st, []⟩) (l := l) ⟨hw.len, hw.pl, hw.st, hw.step⟩ (fun r hr => by cases hr)
  unfold fitsM at h1 ⊢
  simp only [Bool.and_eq_true] at h1
  obtain ⟨⟨⟨⟨h2, h3⟩, h4⟩, h5⟩, -⟩ := h1
  have h4' : memI (l.getD 0 0) c.st = true := h4
  rw [h2, h3, h4', h5]; rfl
/-! ### Pairs that a choice leaves -/
theorem pairs_mem {g : Mat} {ch : List (Int × Int)} : ∀ {l : List Int} {p q : Int}, (p, q) ∈ pairsM g ch l → ∃ i j : Nat, i < j ∧ l[i]? = some p ∧ l[j]? = some q ∧ toldBy g ch p q = false
  | [], p, q, h => by cases h
  | x :: l, p, q, h => by
    unfold pairsM at h
    rcases List.mem_append.1 h with h | h
    · obtain ⟨y, hy, e⟩ := List.mem_map.1 h
      obtain ⟨h1, h2⟩ := List.mem_filter.1 hy
      injection e with e1 e2
      subst e1; subst e2
      obtain ⟨j, hj⟩ := List.mem_iff_getElem?.1 h1
      exact ⟨0, j + 1, by omega, rfl, by simpa using hj, by simpa using h2⟩
    · obtain ⟨i, j, h1, h2, h3, h4⟩ := pairs_mem h
      exact ⟨i + 1, j + 1, by omega, by simpa using h2, by simpa using h3, h4⟩
theorem pairs_in {g : Mat} {ch : List (Int × Int)} : ∀ {l : List Int} {i j : Nat} {p q : Int}, i < j → l[i]? = some p → l[j]? = some q → toldBy g ch p q = false → (p, q) ∈ pairsM g ch l
  | [], i, j, p, q, _, h, _, _ => by simp at h
  | x :: l, 0, j, p, q, hij, h1, h2, h3 => by
    unfold pairsM
    refine List.mem_append.2 (.inl (List.mem_map.2 ⟨q, List.mem_filter.2 ⟨?_, ?_⟩, ?_⟩))
    · cases j with
      | zero => omega
      | succ j => exact List.mem_of_getElem? (by simpa using h2)
    · simp at h1; subst h1; simp [h3]
    · simp at h1; subst h1; rfl
  | x :: l, i + 1, j, p, q, hij, h1, h2, h3 => by
    unfold pairsM
    cases j with
    | zero => omega
    | succ j => exact List.mem_append.2 (.inr (pairs_in (i := i) (j := j) (by omega) (by simpa using h1) (by simpa using h2) h3))
theorem told_sub {g : Mat} {ch ch' : List (Int × Int)} (hs : ∀ x ∈ ch, x ∈ ch') {p q : Int} (h : toldBy g ch p q = true) : toldBy g ch' p q = true := by
  unfold toldBy at h ⊢
  rw [List.any_eq_true] at h ⊢
  obtain ⟨x, h1, h2⟩ := h
  exact ⟨x, hs x h1, h2⟩
theorem pairs_nil {g : Mat} {ch : List (Int × Int)} {l : List Int} : (pairsM g ch l).isEmpty = true ↔ ∀ (i j : Nat) p q, i < j → l[i]? = some p → l[j]? = some q → toldBy g ch p q = true := by
  rw [List.isEmpty_iff]
  constructor
  · intro h i j p q hij hp hq
    refine Classical.byContradiction fun e => ?_
    have := pairs_in (g := g) (ch := ch) hij hp hq (by simpa using e)
    rw [h] at this; cases this
  · intro h
    cases e : pairsM g ch l with
    | nil => rfl
    | cons x r =>
      obtain ⟨i, j, h1, h2, h3, h4⟩ := pairs_mem (g := g) (ch := ch) (l := l) (p := x.1) (q := x.2) (by rw [e]; simp)
      rw [h i j _ _ h1 h2 h3] at h4; cases h4
theorem loud_mem {l : List Int} {n : Int} {x : Int × Int} : x ∈ loudM l n ↔ x.1 ∈ l ∧ x.2 = n := by
  unfold loudM
  rw [List.mem_map]
  constructor
  · rintro ⟨p, hp, rfl⟩; exact ⟨hp, rfl⟩
  · rintro ⟨h1, h2⟩; exact ⟨x.1, h1, by rw [← h2]⟩
theorem places_full (f : Fg) : placesL f = natI (List.range f.pl.toNat) := rfl
/-- No blasts decide just if some pair is not told apart by any. -/
theorem decide_none {f : Fg} {l : List Int} {n : Int} : decideM (farM f) f l n = none ↔ 0 < (twinsM (farM f) f l n).length := by
  unfold decideM twinsM
  constructor
  · intro h
    have h1 := fewL_none h _ (asc_full f.pl.toNat)
    rw [← places_full] at h1
    cases e : pairsM (farM f) (loudM (placesL f) n) l with
    | nil => rw [e] at h1; cases h1
    | cons x r => simp
  · intro h
    cases e : fewL (fun s => (pairsM (farM f) (loudM s n) l).isEmpty) f.pl.toNat with
    | none => rfl
    | some s =>
      exfalso
      obtain ⟨h1, h2, -⟩ := fewL_some e
      have h3 : (pairsM (farM f) (loudM (placesL f) n) l).isEmpty = true := by
        rw [pairs_nil] at h2 ⊢
        intro i j p q hij hp hq
        refine told_sub (fun x hx => ?_) (h2 i j p q hij hp hq)
        obtain ⟨k1, k2⟩ := loud_mem.1 hx
        refine loud_mem.2 ⟨?_, k2⟩
        have := h1.mem _ k1
        rw [places_full]
        unfold natI
        exact List.mem_map.2 ⟨x.1.toNat, List.mem_range.2 (by omega), by omega⟩
      rw [List.isEmpty_iff] at h3
      rw [h3] at h
      simp at h
/-- Blasts that decide: they leave no pair, and without any one of them some pair is left. -/
structure DecOK (f : Fg) (l : List Int) (n : Int) (d : List Int) : Prop where
  mem : ∀ x ∈ d, 0 ≤ x ∧ x < f.pl
  len : d.length ≤ f.pl.toNat
  no : pairsM (farM f) (loudM d n) l = []
  some_ : ∀ i, i < d.length → 0 < (pairsM (farM f) (loudM (d.eraseIdx i) n) l).length
theorem decide_some {f : Fg} (h : FogOK f) {l : List Int} {n : Int} {d : List Int} (e : decideM (farM f) f l n = some d) : DecOK f l n d := by
  have hp := h.pl
  obtain ⟨h1, h2, h3⟩ := fewL_some e
  refine ⟨fun x hx => by have := h1.mem x hx; omega, ?_, List.isEmpty_iff.1 h2, fun i hi => ?_⟩
  · rcases h1.len with h4 | h4
    · omega
    · rw [h4]; simp
  · have := h3 (d.eraseIdx i) h1.erase (by
      unfold fewerL
      rw [List.length_eraseIdx, if_pos hi]
      simp only [Bool.or_eq_true, decide_eq_true_eq]
      left; omega)
    cases e : pairsM (farM f) (loudM (d.eraseIdx i) n) l with
    | nil => simp only [e] at this; cases this
    | cons x r => simp
theorem loud_erase (d : List Int) (n : Int) (i : Nat) : (loudM d n).eraseIdx i = loudM (d.eraseIdx i) n := by
  unfold loudM
  induction d generalizing i with
  | nil => rfl
  | cons x d ih => cases i with
    | zero => rfl
    | succ i => simp [ih]
/-- What the law asks of all rings, for a pair of places. -/
def toldTo (f : Fg) (d : List Int) (n : Int) (p q : Nat) (k : Nat) : Bool := (List.range k).any fun x => memI (x : Int) d && (heardM (farM f) ⟨0, (x : Int), n⟩ p != heardM (farM f) ⟨0, (x : Int), n⟩ q)
def alikeTo (f : Fg) (n : Int) (p q : Nat) (k : Nat) : Bool := (List.range k).all fun x => heardM (farM f) ⟨0, (x : Int), n⟩ p == heardM (farM f) ⟨0, (x : Int), n⟩ q
theorem toldTo_next (f : Fg) (d : List Int) (n : Int) (p q k : Nat) : toldTo f d n p q (k + 1) = (toldTo f d n p q k || (memI (k : Int) d && (heardM (farM f) ⟨0, (k : Int), n⟩ p != heardM (farM f) ⟨0, (k : Int), n⟩ q))) := by
  unfold toldTo
  rw [List.range_succ, List.any_append]; simp
theorem alikeTo_next (f : Fg) (n : Int) (p q k : Nat) : alikeTo f n p q (k + 1) = (alikeTo f n p q k && (heardM (farM f) ⟨0, (k : Int), n⟩ p == heardM (farM f) ⟨0, (k : Int), n⟩ q)) := by
  unfold alikeTo
  rw [List.range_succ, List.all_append]; simp
theorem toldTo_all {f : Fg} {d : List Int} {n : Int} {p q : Nat} (h : toldBy (farM f) (loudM d n) (p : Int) (q : Int) = true) (hd : ∀ x ∈ d, 0 ≤ x ∧ x < f.pl) : toldTo f d n p q f.pl.toNat = true := by
  unfold toldBy at h
  unfold toldTo
  rw [List.any_eq_true] at h ⊢
  obtain ⟨x, h1, h2⟩ := h
  obtain ⟨k1, k2⟩ := loud_mem.1 h1
  have hb := hd _ k1
  refine ⟨x.1.toNat, List.mem_range.2 (by omega), ?_⟩
  rw [Int.toNat_of_nonneg hb.1, mem_memI.2 k1, Bool.true_and]
  rw [Int.toNat_natCast, Int.toNat_natCast, k2] at h2
  exact h2
theorem alike_all {f : Fg} {n : Int} {p q : Nat} : alikeTo f n p q f.pl.toNat = !toldBy (farM f) (loudM (placesL f) n) (p : Int) (q : Int) := by
  rw [Bool.eq_iff_iff, Bool.not_eq_true']
  unfold alikeTo toldBy
  rw [List.all_eq_true, List.any_eq_false]
  constructor
  · intro h x hx
    obtain ⟨k1, k2⟩ := loud_mem.1 hx
    rw [places_full] at k1
    unfold natI at k1
    obtain ⟨y, hy, e⟩ := List.mem_map.1 k1
    have := h y hy
    rw [← e, k2]
    rw [beq_iff_eq] at this
    simp [this]
  · intro h y hy
    have := h ((y : Int), n) (loud_mem.2 ⟨by rw [places_full]; unfold natI; exact List.mem_map.2 ⟨y, hy, rfl⟩, rfl⟩)
    simpa using this
/-! ### The one blast that is best -/
def mostN (H : Nat → Int → Bool) (l : List Int) (p : Nat) : Int := max (yesM (H p) l) (l.length - yesM (H p) l)
theorem mostN_le (H : Nat → Int → Bool) (l : List Int) (p : Nat) : mostN H l p ≤ l.length := by
  have := yes_le (H p) l
  unfold mostN; omega
theorem askS_spec (H : Nat → Int → Bool) (l : List Int) : ∀ (P : Nat), 0 < P → ∃ b : Nat, b < P ∧ askS H l P = ((b : Int), mostN H l b) ∧ (∀ p, p < P → mostN H l b ≤ mostN H l p) ∧ ∀ p, p < b → mostN H l b < mostN H l p
  | 0, h => by omega
  | 1, _ => by
    refine ⟨0, by omega, ?_, fun p hp => by rw [show p = 0 by omega]; exact Int.le_refl _, fun p hp => by omega⟩
    have h1 := mostN_le H l 0
    unfold askS
    unfold mostN at h1 ⊢
    rw [if_pos (by unfold askS; simp only; omega)]
  | P + 2, _ => by
    obtain ⟨b, h1, h2, h3, h4⟩ := askS_spec H l (P + 1) (by omega)
    have e : askS H l (P + 2) = if mostN H l (P + 1) < mostN H l b then (((P + 1 : Nat) : Int), mostN H l (P + 1)) else ((b : Int), mostN H l b) := by
      show (if max _ _ < (askS H l (P + 1)).2 then _ else askS H l (P + 1)) = _
      rw [h2]; rfl
    rw [e]
    by_cases hlt : mostN H l (P + 1) < mostN H l b
    · rw [if_pos hlt]
      refine ⟨P + 1, by omega, rfl, fun p hp => ?_, fun p hp => ?_⟩
      · by_cases e : p = P + 1
        · rw [e]; exact Int.le_refl _
        · have := h3 p (by omega); omega
      · have := h3 p (by omega); omega
    · rw [if_neg hlt]
      refine ⟨b, by omega, rfl, fun p hp => ?_, h4⟩
      by_cases e : p = P + 1
      · rw [e]; omega
      · exact h3 p (by omega)
end Go.Proofs.YtlonpgbapiemcaaGreat
