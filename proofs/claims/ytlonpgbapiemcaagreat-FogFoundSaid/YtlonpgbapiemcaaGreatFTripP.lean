/- Walks that fit go only where the cart can be, as many as are counted; carts without reports stay where they like. No program stands here. -/
import Derived.Test.YtlonpgbapiemcaaGreatFFitP
import Derived.Test.YtlonpgbapiemcaaGreatFStillP
namespace Go.Proofs.YtlonpgbapiemcaaGreat
open Go Go.RowKit
set_option linter.unusedVariables false
set_option linter.unusedSimpArgs false

section
variable {f : Fg} {c : Ct} {l : List Int}
theorem fits_at (h : FogOK f) (hc : c ∈ f.ct) (hl : fitsM (farM f) f c l = true) {m : Nat} (hm : m ≤ f.mi.toNat) : wlAt l m < f.pl.toNat ∧ (l.getD m 0 = (wlAt l m : Int)) ∧ agC (farM f) f c allF m (wlAt l m) = true := by
  rw [← fits_ref h hc] at hl
  unfold fitsR at hl
  simp only [Bool.and_eq_true, decide_eq_true_eq, List.all_eq_true] at hl
  obtain ⟨⟨h1, -⟩, h3⟩ := hl
  have h4 := h3 m (by rw [List.mem_range]; omega)
  unfold fitAt at h4
  simp only [Bool.and_eq_true] at h4
  have h5 := plOK_iff2.1 h4.1.1
  exact ⟨by unfold wlAt; omega, by unfold wlAt; omega, h4.2⟩
theorem fits_step (h : FogOK f) (hc : c ∈ f.ct) (hl : fitsM (farM f) f c l = true) {m : Nat} (hm : m < f.mi.toNat) : farM f (wlAt l m) (wlAt l (m + 1)) ≤ 1 := by
  unfold fitsM at hl
  simp only [Bool.and_eq_true] at hl
  have := hl.1.2
  unfold stepsL at this
  rw [List.all_eq_true] at this
  simpa using this m (List.mem_range.2 hm)
theorem fits_come (h : FogOK f) (hc : c ∈ f.ct) (hl : fitsM (farM f) f c l = true) : ∀ (m : Nat), m ≤ f.mi.toNat → 0 < comeM (farM f) f c allF m (wlAt l m)
  | 0, hm => by
    obtain ⟨h1, h2, h3⟩ := fits_at h hc hl hm
    unfold fitsM at hl
    simp only [Bool.and_eq_true] at hl
    have h4 := hl.1.1.2
    rw [h2] at h4
    unfold comeM
    rw [h3, h4]; decide
  | m + 1, hm => by
    obtain ⟨h1, h2, h3⟩ := fits_at h hc hl hm
    exact (come_pos m _).2 ⟨h3, wlAt l m, (fits_at h hc hl (show m ≤ f.mi.toNat by omega)).1, fits_step h hc hl (by omega), fits_come h hc hl m (by omega)⟩
theorem fits_cont (h : FogOK f) (hc : c ∈ f.ct) (hl : fitsM (farM f) f c l = true) : ∀ (k : Nat), k ≤ f.mi.toNat → 0 < contM (farM f) f c allF (f.mi.toNat - k) (wlAt l (f.mi.toNat - k))
  | 0, hm => by unfold contM; rw [if_neg (by omega)]; decide
  | k + 1, hm => by
    have h1 := fits_cont h hc hl k (by omega)
    rw [show f.mi.toNat - k = f.mi.toNat - (k + 1) + 1 by omega] at h1
    obtain ⟨q1, q2, q3⟩ := fits_at h hc hl (show f.mi.toNat - (k + 1) + 1 ≤ f.mi.toNat by omega)
    exact (cont_pos (by omega) _).2 ⟨_, q1, fits_step h hc hl (by omega), (rest_pos (by omega) _).2 ⟨q3, h1⟩⟩
/-- A walk that fits is where the cart can be. -/
theorem fits_can (h : FogOK f) (hc : c ∈ f.ct) (hl : fitsM (farM f) f c l = true) {m : Nat} (hm : m ≤ f.mi.toNat) : wlAt l m ∈ canN (farM f) f c m := by
  have h1 := fits_cont h hc hl (f.mi.toNat - m) (by omega)
  rw [show f.mi.toNat - (f.mi.toNat - m) = m by omega] at h1
  exact (can_mem hm).2 ⟨(fits_at h hc hl hm).1, fits_come h hc hl m hm, h1⟩
theorem fits_pos (h : FogOK f) (hc : c ∈ f.ct) (hl : fitsM (farM f) f c l = true) : 0 < countM (farM f) f c allF := by
  rw [count_come h hc]
  exact (sumN_pos (fun k _ => come_nonneg _ _)).2 ⟨_, (fits_at h hc hl (Nat.le_refl _)).1, fits_come h hc hl _ (Nat.le_refl _)⟩
theorem fits_found (h : FogOK f) (hc : c ∈ f.ct) (hl : fitsM (farM f) f c l = true) : lostF (farM f) f c = false := by
  have := fits_pos h hc hl
  unfold lostF
  simp; omega
end
/-! ### Carts without reports -/
theorem ag_free {g : Mat} {f : Fg} {c : Ct} (hr : c.rp = []) (m p : Nat) : agC g f c allF m p = true := by unfold agC; rw [hr]; rfl
/-- A cart that says nothing can stay. -/
theorem cont_free {f : Fg} (h : FogOK f) {c : Ct} (hr : c.rp = []) : ∀ (k p : Nat), p < f.pl.toNat → 0 < contM (farM f) f c allF (f.mi.toNat - k) p
  | 0, p, _ => by unfold contM; rw [if_neg (by omega)]; decide
  | k + 1, p, hp => by
    by_cases hm : f.mi.toNat - (k + 1) < f.mi.toNat
    · by_cases hk : k < f.mi.toNat
      · have h1 := cont_free h hr k p hp
        rw [show f.mi.toNat - k = f.mi.toNat - (k + 1) + 1 by omega] at h1
        have h2 := h.pl
        refine (cont_pos hm p).2 ⟨p, hp, by rw [(far_ok h).dst.self p (by omega)]; omega, (rest_pos (by omega) p).2 ⟨ag_free hr _ _, h1⟩⟩
      · have h1 := cont_free h hr k p hp
        rwa [show f.mi.toNat - (k + 1) = f.mi.toNat - k by omega]
    · unfold contM; rw [if_neg hm]; decide
theorem can_free {f : Fg} (h : FogOK f) {c : Ct} (hr : c.rp = []) {m p : Nat} (hm : m ≤ f.mi.toNat) : p ∈ canN (farM f) f c m ↔ p < f.pl.toNat ∧ 0 < comeM (farM f) f c allF m p := by
  rw [can_mem hm]
  constructor
  · exact fun x => ⟨x.1, x.2.1⟩
  · intro x
    have h1 := cont_free h hr (f.mi.toNat - m) p x.1
    rw [show f.mi.toNat - (f.mi.toNat - m) = m by omega] at h1
    exact ⟨x.1, x.2, h1⟩
theorem come_free {f : Fg} (h : FogOK f) {c : Ct} (hr : c.rp = []) {m p : Nat} (hp : p < f.pl.toNat) (hc : 0 < comeM (farM f) f c allF m p) : 0 < comeM (farM f) f c allF (m + 1) p := by
  have h2 := h.pl
  exact (come_pos m p).2 ⟨ag_free hr _ _, p, hp, by rw [(far_ok h).dst.self p (by omega)]; omega, hc⟩
theorem can_stay {f : Fg} (h : FogOK f) {c : Ct} (hr : c.rp = []) {m p : Nat} (hm : m + 1 ≤ f.mi.toNat) (hp : p ∈ canN (farM f) f c m) : p ∈ canN (farM f) f c (m + 1) := by
  obtain ⟨h1, h2⟩ := (can_free h hr (by omega)).1 hp
  exact (can_free h hr hm).2 ⟨h1, come_free h hr h1 h2⟩
/-- The places of its start are possible in each minute. -/
theorem can_start {f : Fg} (h : FogOK f) {c : Ct} (hc : c ∈ f.ct) (hr : c.rp = []) {p : Int} (hp : p ∈ c.st) : ∀ {m : Nat}, m ≤ f.mi.toNat → p.toNat ∈ canN (farM f) f c m
  | 0, hm => by
    have h1 := h.st c hc p hp
    refine (can_free h hr hm).2 ⟨by omega, ?_⟩
    unfold comeM
    rw [ag_free hr, show ((p.toNat : Nat) : Int) = p by omega, mem_memI.2 hp]; decide
  | m + 1, hm => can_stay h hr hm (can_start h hc hr hp (by omega))
theorem lost_free {f : Fg} (h : FogOK f) {c : Ct} (hc : c ∈ f.ct) (hr : c.rp = []) : lostF (farM f) f c = false := by
  have hne := h.ne c hc
  obtain ⟨p, hp⟩ : ∃ p, p ∈ c.st := by
    cases hs : c.st with
    | nil => rw [hs] at hne; simp at hne
    | cons x l => exact ⟨x, by simp⟩
  have h1 := (can_free h hr (Nat.le_refl _)).1 (can_start h hc hr hp (m := f.mi.toNat) (Nat.le_refl _))
  unfold lostF
  rw [count_come h hc]
  have := (sumN_pos (n := f.pl.toNat) (fun k _ => come_nonneg (g := farM f) (f := f) (c := c) (sel := allF) f.mi.toNat k)).2 ⟨_, h1⟩
  simp; omega
/-! ### Two carts -/
theorem trip_metAt_iff {g : Mat} {f : Fg} {c d : Ct} {m : Nat} : metAt g f c d m = true ↔ ∃ p, p ∈ canN g f c m ∧ p ∈ canN g f d m := by
  unfold metAt
  rw [List.any_eq_true]
  exact exists_congr fun p => and_congr_right fun _ => inCan_iff
theorem trip_met_symm (g : Mat) (f : Fg) (c d : Ct) : metM g f c d = metM g f d c := by
  have e : metAt g f c d = metAt g f d c := by
    funext m
    rw [Bool.eq_iff_iff, trip_metAt_iff, trip_metAt_iff]
    exact exists_congr fun p => And.comm
  unfold metM
  rw [e]
theorem trip_met_own {f : Fg} (h : FogOK f) {c : Ct} (hc : c ∈ f.ct) (hl : lostF (farM f) f c = false) : (metM (farM f) f c c).length = f.mi.toNat + 1 := by
  unfold metM natI
  rw [List.length_map, List.filter_eq_self.2, List.length_range]
  intro m hm
  have hm' := List.mem_range.1 hm
  obtain ⟨p, hp⟩ := can_some h hc hl (f.mi.toNat - m) (by omega)
  rw [show f.mi.toNat - (f.mi.toNat - m) = m by omega] at hp
  exact trip_metAt_iff.2 ⟨p, hp, hp⟩
theorem trip_met_mem {g : Mat} {f : Fg} {c d : Ct} {m : Nat} (hm : m ≤ f.mi.toNat) : memI (m : Int) (metM g f c d) = metAt g f c d m := by
  rw [Bool.eq_iff_iff, mem_memI]
  unfold metM natI
  rw [List.mem_map]
  constructor
  · rintro ⟨a, ha, e⟩
    obtain rfl : a = m := by omega
    exact (List.mem_filter.1 ha).2
  · exact fun h => ⟨m, List.mem_filter.2 ⟨List.mem_range.2 (by omega), h⟩, rfl⟩
/-- Numbers below n from one of which on all are told: the last ones. -/
theorem up_filter {P : Nat → Bool} : ∀ (n : Nat), (∀ m, m + 1 < n → P m = true → P (m + 1) = true) → ∃ k, k ≤ n ∧ (List.range n).filter P = (List.range k).map fun i => n - k + i
  | 0, _ => ⟨0, Nat.le_refl _, rfl⟩
  | n + 1, h => by
    obtain ⟨k, hk, e⟩ := up_filter n (fun m hm => h m (by omega))
    rw [List.range_succ, List.filter_append, e]
    cases hP : P n
    · have hk0 : k = 0 := by
        rcases Nat.eq_zero_or_pos k with h0 | h0
        · exact h0
        · exfalso
          have hm : n - 1 ∈ (List.range n).filter P := by
            rw [e, List.mem_map]
            exact ⟨k - 1, List.mem_range.2 (by omega), by omega⟩
          have h1 := (List.mem_filter.1 hm).2
          have h2 := h (n - 1) (by omega) h1
          rw [show n - 1 + 1 = n by omega, hP] at h2
          cases h2
      subst hk0
      exact ⟨0, by omega, by simp [hP]⟩
    · refine ⟨k + 1, by omega, ?_⟩
      rw [List.range_succ, List.map_append]
      simp only [List.filter_cons, hP, if_true, List.filter_nil, List.map_cons, List.map_nil]
      congr 1
      · exact List.map_congr_left fun i _ => by omega
      · congr 1; omega
theorem trip_met_free {f : Fg} (h : FogOK f) {c d : Ct} (hc : c.rp = []) (hd : d.rp = []) : ∀ (i : Nat) (x : Int), (metM (farM f) f c d)[i]? = some x → x = (f.mi.toNat : Int) + 1 - ((metM (farM f) f c d).length : Int) + i := by
  obtain ⟨k, hk, e⟩ := up_filter (P := metAt (farM f) f c d) (f.mi.toNat + 1) (fun m hm hp => by
    obtain ⟨p, h1, h2⟩ := trip_metAt_iff.1 hp
    exact trip_metAt_iff.2 ⟨p, can_stay h hc (by omega) h1, can_stay h hd (by omega) h2⟩)
  unfold metM natI
  rw [e]
  intro i x hx
  simp only [List.map_map, List.length_map, List.length_range] at hx ⊢
  rw [List.getElem?_map] at hx
  obtain ⟨a, ha, rfl⟩ := Option.map_eq_some_iff.1 hx
  obtain ⟨h1, h2⟩ := List.getElem?_eq_some_iff.1 ha
  rw [List.getElem_range] at h2
  have h3 : i < k := by simpa using h1
  simp only [Function.comp]
  omega
end Go.Proofs.YtlonpgbapiemcaaGreat
