/- Walks that fit a cart, as plain functions: what the program asks and what the reference asks is the same; the walk that is found fits. No program stands here. -/
import Derived.Test.YtlonpgbapiemcaaGreatG1
namespace Go.Proofs.YtlonpgbapiemcaaGreat
open Go Go.RowKit
set_option linter.unusedVariables false
set_option linter.unusedSimpArgs false

def wlAt (l : List Int) (m : Nat) : Nat := (l.getD m 0).toNat
def stepsL (g : Mat) (l : List Int) (n : Nat) : Bool := (List.range n).all fun i => decide (g (wlAt l i) (wlAt l (i + 1)) ≤ 1)
def hearsL2 (g : Mat) (f : Fg) (l : List Int) (i : Int) : Bool := heardM g (blAt f i) (wlAt l (blAt f i).mi.toNat)
def heardAll (g : Mat) (f : Fg) (c : Ct) (l : List Int) : Bool := c.rp.all fun r => hearsL2 g f l r.bl == r.hd
/-- A list of places is a walk that fits a cart. -/
def fitsM (g : Mat) (f : Fg) (c : Ct) (l : List Int) : Bool := decide (l.length = f.mi.toNat + 1) && l.all (plOK f) && memI (l.getD 0 0) c.st && stepsL g l f.mi.toNat && heardAll g f c l
/-- What the reference asks of a minute. -/
def fitAt (g : Mat) (f : Fg) (c : Ct) (l : List Int) (m : Nat) : Bool := plOK f (l.getD m 0) && (m == 0 || decide (g (wlAt l (m - 1)) (wlAt l m) ≤ 1)) && agC g f c allF m (wlAt l m)
def fitsR (g : Mat) (f : Fg) (c : Ct) (l : List Int) : Bool := decide (l.length = f.mi.toNat + 1) && memI (l.getD 0 0) c.st && (List.range l.length).all (fitAt g f c l)
theorem plOK_iff2 {f : Fg} {x : Int} : plOK f x = true ↔ 0 ≤ x ∧ x < f.pl := by
  unfold plOK; rw [inB_iff]; omega
theorem agL_iff {g : Mat} {f : Fg} {sel : Int → Bool} {m p : Nat} : ∀ {l : List Rp} {i : Nat}, agL g f sel m p i l = true ↔ ∀ k r, l[k]? = some r → badR g f sel m p (i + k) r = false
  | [], i => by simp [agL]
  | x :: l, i => by
    unfold agL
    rw [Bool.and_eq_true, agL_iff (l := l)]
    constructor
    · rintro ⟨h1, h2⟩ k r hk
      cases k with
      | zero => simp at hk; subst hk; simpa using h1
      | succ k => have := h2 k r (by simpa using hk); rwa [show i + 1 + k = i + (k + 1) by omega] at this
    · intro h
      refine ⟨by simpa using h 0 x rfl, fun k r hk => ?_⟩
      have := h (k + 1) r (by simpa using hk)
      rwa [show i + 1 + k = i + (k + 1) by omega]
theorem agC_iff {g : Mat} {f : Fg} {c : Ct} {m p : Nat} : agC g f c allF m p = true ↔ ∀ r ∈ c.rp, (blAt f r.bl).mi = (m : Int) → heardM g (blAt f r.bl) p = r.hd := by
  unfold agC
  rw [agL_iff]
  have e : ∀ i : Nat, ∀ r : Rp, badR g f allF m p i r = false ↔ ((blAt f r.bl).mi = (m : Int) → heardM g (blAt f r.bl) p = r.hd) := by
    intro i r
    unfold badR
    show (decide ((blAt f r.bl).mi = (m : Int)) && true && (heardM g (blAt f r.bl) p != r.hd)) = false ↔ _
    by_cases h : (blAt f r.bl).mi = (m : Int)
    · simp [h]
    · simp [h]
  constructor
  · intro h r hr
    obtain ⟨k, hk⟩ := List.mem_iff_getElem?.1 hr
    exact (e _ r).1 (h k r hk)
  · intro h k r hk
    exact (e _ r).2 (h r (List.mem_of_getElem? hk))
theorem blAt_mi {f : Fg} (h : FogOK f) {c : Ct} (hc : c ∈ f.ct) {r : Rp} (hr : r ∈ c.rp) : blAt f r.bl ∈ f.bl ∧ 0 ≤ (blAt f r.bl).mi ∧ (blAt f r.bl).mi ≤ f.mi := by
  have h1 := h.rp c hc r hr
  obtain ⟨b, hb⟩ : ∃ b, f.bl[r.bl.toNat]? = some b := ⟨_, List.getElem?_eq_getElem (by omega)⟩
  have hm := List.mem_of_getElem? hb
  rw [blAt_get hb]
  have := h.bl b hm
  exact ⟨hm, this.1⟩
theorem getD_all {P : Int → Bool} {l : List Int} (h : l.all P = true) {i : Nat} (hi : i < l.length) : P (l.getD i 0) = true := by
  rw [List.all_eq_true] at h
  rw [List.getD_eq_getElem?_getD, List.getElem?_eq_getElem hi]
  exact h _ (List.getElem_mem hi)
theorem fits_ref {f : Fg} (h : FogOK f) {c : Ct} (hc : c ∈ f.ct) (l : List Int) : fitsR (farM f) f c l = fitsM (farM f) f c l := by
  rw [Bool.eq_iff_iff]
  unfold fitsR fitsM
  simp only [Bool.and_eq_true, decide_eq_true_eq]
  have hmi := h.mi
  constructor
  · rintro ⟨⟨hl, hs⟩, ha⟩
    rw [List.all_eq_true] at ha
    have ha' : ∀ m, m < l.length → fitAt (farM f) f c l m = true := fun m hm => ha m (by simpa using hm)
    refine ⟨⟨⟨⟨hl, ?_⟩, hs⟩, ?_⟩, ?_⟩
    · rw [List.all_eq_true]
      intro x hx
      obtain ⟨i, hi, he⟩ := List.mem_iff_getElem.1 hx
      have := ha' i hi
      unfold fitAt at this
      simp only [Bool.and_eq_true] at this
      rw [List.getD_eq_getElem?_getD, List.getElem?_eq_getElem hi, he] at this
      exact this.1.1
    · unfold stepsL
      rw [List.all_eq_true]
      intro i hi
      have := ha' (i + 1) (by have := List.mem_range.1 hi; omega)
      unfold fitAt at this
      simp only [Bool.and_eq_true] at this
      simpa using this.1.2
    · unfold heardAll
      rw [List.all_eq_true]
      intro r hr
      obtain ⟨hm, h1, h2⟩ := blAt_mi h hc hr
      have := ha' (blAt f r.bl).mi.toNat (by omega)
      unfold fitAt at this
      simp only [Bool.and_eq_true] at this
      have := agC_iff.1 this.2 r hr (by omega)
      unfold hearsL2
      rw [this]; simp
  · rintro ⟨⟨⟨⟨hl, hp⟩, hs⟩, hst⟩, ha⟩
    refine ⟨⟨hl, hs⟩, ?_⟩
    rw [List.all_eq_true]
    intro m hm
    have hm' : m < l.length := List.mem_range.1 hm
    unfold fitAt
    simp only [Bool.and_eq_true]
    refine ⟨⟨getD_all hp hm', ?_⟩, ?_⟩
    · cases m with
      | zero => rfl
      | succ m =>
        unfold stepsL at hst
        rw [List.all_eq_true] at hst
        have := hst m (by rw [List.mem_range]; omega)
        simpa using this
    · rw [agC_iff]
      intro r hr e
      unfold heardAll at ha
      rw [List.all_eq_true] at ha
      have := ha r hr
      unfold hearsL2 at this
      rw [e, Int.toNat_natCast] at this
      simpa using this

/-! ### The walk that is found -/
/-- A place in each minute at which a cart can be, each beside the one before. -/
structure CanWalk (f : Fg) (c : Ct) (l : List Int) : Prop where
  len : l.length = f.mi.toNat + 1
  on : ∀ m, m ≤ f.mi.toNat → wlAt l m ∈ canN (farM f) f c m ∧ l.getD m 0 = (wlAt l m : Int)
  step : ∀ m, m < f.mi.toNat → farM f (wlAt l m) (wlAt l (m + 1)) ≤ 1
theorem can_mem {f : Fg} {c : Ct} {m p : Nat} (hm : m ≤ f.mi.toNat) : p ∈ canN (farM f) f c m ↔ p < f.pl.toNat ∧ 0 < comeM (farM f) f c allF m p ∧ 0 < contM (farM f) f c allF m p := by
  rw [canN_on hm]
  unfold onM
  simp
theorem can_lt {f : Fg} {c : Ct} {m p : Nat} (hm : m ≤ f.mi.toNat) (hp : p ∈ canN (farM f) f c m) : p < f.pl.toNat := ((can_mem hm).1 hp).1
theorem can_ag {f : Fg} {c : Ct} {m p : Nat} (hm : m ≤ f.mi.toNat) (hp : p ∈ canN (farM f) f c m) : agC (farM f) f c allF m p = true := come_ag ((can_mem hm).1 hp).2.1
theorem can_back {f : Fg} {c : Ct} {m p : Nat} (hm : m + 1 ≤ f.mi.toNat) (hp : p ∈ canN (farM f) f c (m + 1)) : ∃ q, q ∈ canN (farM f) f c m ∧ farM f q p ≤ 1 := by
  obtain ⟨h1, h2, h3⟩ := (can_mem hm).1 hp
  obtain ⟨ha, q, hq, hg, hc⟩ := (come_pos m p).1 h2
  refine ⟨q, (can_mem (by omega)).2 ⟨hq, hc, ?_⟩, hg⟩
  exact (cont_pos (by omega) q).2 ⟨p, h1, hg, (rest_pos hm p).2 ⟨ha, h3⟩⟩
theorem can_on {f : Fg} {c : Ct} {m p : Nat} (hm : m + 1 ≤ f.mi.toNat) (hp : p ∈ canN (farM f) f c m) : ∃ q, q ∈ canN (farM f) f c (m + 1) ∧ farM f p q ≤ 1 := by
  obtain ⟨h1, h2, h3⟩ := (can_mem (by omega)).1 hp
  obtain ⟨q, hq, hg, hr⟩ := (cont_pos (by omega) p).1 h3
  obtain ⟨ha, hn⟩ := (rest_pos hm q).1 hr
  exact ⟨q, (can_mem hm).2 ⟨hq, (come_pos m q).2 ⟨ha, p, h1, hg, h2⟩, hn⟩, hg⟩
theorem can_st {f : Fg} {c : Ct} {p : Nat} (hp : p ∈ canN (farM f) f c 0) : memI (p : Int) c.st = true := by
  have := ((can_mem (Nat.zero_le _)).1 hp).2.1
  unfold comeM at this
  split at this
  · split at this
    · assumption
    · omega
  · omega
theorem CanWalk.fits {f : Fg} (h : FogOK f) {c : Ct} (hc : c ∈ f.ct) {l : List Int} (k : CanWalk f c l) : fitsM (farM f) f c l = true := by
  unfold fitsM
  simp only [Bool.and_eq_true, decide_eq_true_eq]
  have hmi := h.mi
  have hpl := h.pl
  refine ⟨⟨⟨⟨k.len, ?_⟩, ?_⟩, ?_⟩, ?_⟩
  · rw [List.all_eq_true]
    intro x hx
    obtain ⟨i, hi, he⟩ := List.mem_iff_getElem.1 hx
    have hl := k.len
    obtain ⟨h1, h2⟩ := k.on i (by omega)
    have h3 := can_lt (by omega) h1
    rw [List.getD_eq_getElem?_getD, List.getElem?_eq_getElem hi, he] at h2
    simp only [Option.getD_some] at h2
    rw [plOK_iff2]; omega
  · obtain ⟨h1, h2⟩ := k.on 0 (Nat.zero_le _)
    rw [h2]
    exact can_st h1
  · unfold stepsL
    rw [List.all_eq_true]
    intro i hi
    have := k.step i (List.mem_range.1 hi)
    simpa using this
  · unfold heardAll
    rw [List.all_eq_true]
    intro r hr
    obtain ⟨hm, h1, h2⟩ := blAt_mi h hc hr
    obtain ⟨h3, h4⟩ := k.on (blAt f r.bl).mi.toNat (by omega)
    have := agC_iff.1 (can_ag (by omega) h3) r hr (by omega)
    unfold hearsL2
    rw [this]; simp
/-- The first of some places to which one can go from a place. -/
def firstN (g : Mat) (l : List Nat) (p : Nat) : Option Nat := l.find? fun q => decide (g p q ≤ 1)
theorem firstN_some {g : Mat} {l : List Nat} {p q : Nat} (h : firstN g l p = some q) : q ∈ l ∧ g p q ≤ 1 := by
  unfold firstN at h
  refine ⟨List.mem_of_find?_eq_some h, ?_⟩
  have := List.find?_some h
  simpa using this
end Go.Proofs.YtlonpgbapiemcaaGreat
