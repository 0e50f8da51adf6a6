/- The greatest number of steps in which a walk stays, and the minutes in which two carts can have met: the program's way and the reference's way give the same. No program stands here. -/
import Derived.Test.YtlonpgbapiemcaaGreatFFitP
namespace Go.Proofs.YtlonpgbapiemcaaGreat
open Go Go.RowKit
set_option linter.unusedVariables false
set_option linter.unusedSimpArgs false

/-! ### The greatest of some values -/
def maxF (l : List Nat) (C : Nat → Bool) (v : Nat → Int) (b : Int) : Int := l.foldl (fun b x => if C x then max b (v x) else b) b
theorem maxF_nil (C : Nat → Bool) (v : Nat → Int) (b : Int) : maxF [] C v b = b := rfl
theorem maxF_cons (x : Nat) (l : List Nat) (C : Nat → Bool) (v : Nat → Int) (b : Int) : maxF (x :: l) C v b = maxF l C v (if C x then max b (v x) else b) := rfl
theorem maxF_snoc (l : List Nat) (x : Nat) (C : Nat → Bool) (v : Nat → Int) (b : Int) : maxF (l ++ [x]) C v b = if C x then max (maxF l C v b) (v x) else maxF l C v b := by
  unfold maxF; rw [List.foldl_append]; rfl
theorem maxF_take {l : List Nat} {j x : Nat} (h : l[j]? = some x) (C : Nat → Bool) (v : Nat → Int) (b : Int) : maxF (l.take (j + 1)) C v b = if C x then max (maxF (l.take j) C v b) (v x) else maxF (l.take j) C v b := by
  obtain ⟨h1, h2⟩ := List.getElem?_eq_some_iff.1 h
  rw [List.take_succ_eq_append_getElem h1, h2, maxF_snoc]
theorem maxF_range (j : Nat) (C : Nat → Bool) (v : Nat → Int) (b : Int) : maxF (List.range (j + 1)) C v b = if C j then max (maxF (List.range j) C v b) (v j) else maxF (List.range j) C v b := by
  rw [List.range_succ, maxF_snoc]
theorem maxF_spec (C : Nat → Bool) (v : Nat → Int) : ∀ (l : List Nat) (b : Int), b ≤ maxF l C v b ∧ (∀ x ∈ l, C x = true → v x ≤ maxF l C v b) ∧ (maxF l C v b = b ∨ ∃ x ∈ l, C x = true ∧ maxF l C v b = v x)
  | [], b => ⟨Int.le_refl _, (fun x (hx : x ∈ []) => by cases hx), Or.inl rfl⟩
  | x :: l, b => by
    obtain ⟨h1, h2, h3⟩ := maxF_spec C v l (if C x then max b (v x) else b)
    rw [maxF_cons]
    cases hx : C x
    · rw [hx] at h1 h2 h3
      simp only [Bool.false_eq_true, if_false] at h1 h2 h3 ⊢
      refine ⟨h1, fun y hy hc => ?_, ?_⟩
      · rcases List.mem_cons.1 hy with rfl | hy
        · rw [hx] at hc; cases hc
        · exact h2 y hy hc
      · rcases h3 with h | ⟨y, hy, hc, he⟩
        · exact .inl h
        · exact .inr ⟨y, List.mem_cons_of_mem _ hy, hc, he⟩
    · rw [hx] at h1 h2 h3
      simp only [if_true] at h1 h2 h3 ⊢
      refine ⟨by omega, fun y hy hc => ?_, ?_⟩
      · rcases List.mem_cons.1 hy with rfl | hy
        · omega
        · exact h2 y hy hc
      · rcases h3 with h | ⟨y, hy, hc, he⟩
        · by_cases hb : v x ≤ b
          · exact .inl (by omega)
          · exact .inr ⟨x, List.mem_cons_self, hx, by omega⟩
        · exact .inr ⟨y, List.mem_cons_of_mem _ hy, hc, he⟩
theorem maxF_congr {C C' : Nat → Bool} {v v' : Nat → Int} : ∀ {l : List Nat} {b : Int}, (∀ x ∈ l, C x = C' x) → (∀ x ∈ l, C x = true → v x = v' x) → maxF l C v b = maxF l C' v' b
  | [], b, _, _ => rfl
  | x :: l, b, h, hv => by
    rw [maxF_cons, maxF_cons, ← h x (by simp)]
    cases hx : C x
    · exact maxF_congr (fun y hy => h y (by simp [hy])) (fun y hy => hv y (by simp [hy]))
    · simp only [if_true]
      rw [hv x (by simp) hx]
      exact maxF_congr (fun y hy => h y (by simp [hy])) (fun y hy => hv y (by simp [hy]))

/-! ### The program's way: from the last minute back -/
def stay1 (p q : Nat) : Int := if p = q then 1 else 0
section
variable (g : Mat) (f : Fg) (c : Ct)
def inCan (m q : Nat) : Bool := memI (q : Int) (natI (canN g f c m))
def mostK : Nat → Nat → Int
  | 0, _ => 0
  | k + 1, p => max 0 (maxF (nxt g f.pl.toNat p) (inCan g f c (f.mi.toNat - k)) (fun q => stay1 p q + mostK k q) (-1))
def mostAt (m p : Nat) : Int := mostK g f c (f.mi.toNat - m) p
def bestAt (m p : Nat) : Int := if m < f.mi.toNat then maxF (nxt g f.pl.toNat p) (inCan g f c (m + 1)) (fun q => stay1 p q + mostAt g f c (m + 1) q) (-1) else -1
def stillM : Int := maxF (canN g f c 0) (fun _ => true) (bestAt g f c 0) 0
/-! ### The reference's way: from the first minute on -/
def stR : Nat → Nat → Int
  | 0, _ => 0
  | m + 1, p => maxF (List.range f.pl.toNat) (fun q => inCan g f c (m + 1) p && inCan g f c m q && decide (g q p ≤ 1)) (fun q => stR m q + stay1 p q) (-100)
def stillR : Int := maxF (List.range f.pl.toNat) (fun _ => true) (stR g f c f.mi.toNat) 0
/-- So many stays on some way to a place. -/
def Fwd : Nat → Nat → Int → Prop
  | 0, p, s => p ∈ canN g f c 0 ∧ s = 0
  | m + 1, p, s => p ∈ canN g f c (m + 1) ∧ ∃ q s', Fwd m q s' ∧ g q p ≤ 1 ∧ s = s' + stay1 p q
/-- So many stays on some way from a place. -/
def Bwd : Nat → Nat → Int → Prop
  | 0, p, s => p ∈ canN g f c f.mi.toNat ∧ s = 0
  | k + 1, p, s => p ∈ canN g f c (f.mi.toNat - (k + 1)) ∧ ∃ q s', Bwd k q s' ∧ g p q ≤ 1 ∧ s = s' + stay1 p q
end
theorem stay_nn (p q : Nat) : 0 ≤ stay1 p q ∧ stay1 p q ≤ 1 := by unfold stay1; split <;> omega
theorem inCan_iff {g : Mat} {f : Fg} {c : Ct} {m q : Nat} : inCan g f c m q = true ↔ q ∈ canN g f c m := by
  unfold inCan natI
  rw [mem_memI, List.mem_map]
  constructor
  · rintro ⟨a, h, e⟩
    have : a = q := by omega
    subst this; exact h
  · exact fun h => ⟨q, h, rfl⟩
theorem most_le {g : Mat} {f : Fg} {c : Ct} : ∀ (k p : Nat), 0 ≤ mostK g f c k p ∧ mostK g f c k p ≤ k
  | 0, p => by unfold mostK; omega
  | k + 1, p => by
    unfold mostK
    rcases (maxF_spec (inCan g f c (f.mi.toNat - k)) (fun q => stay1 p q + mostK g f c k q) (nxt g f.pl.toNat p) (-1)).2.2 with h | ⟨x, hx, hc, he⟩
    · rw [h]; omega
    · rw [he]
      have h1 := most_le (g := g) (f := f) (c := c) k x
      have h2 := stay_nn p x
      omega
theorem most_at {g : Mat} {f : Fg} {c : Ct} {m : Nat} (hm : m ≤ f.mi.toNat) (p : Nat) : mostAt g f c m p = max 0 (bestAt g f c m p) := by
  unfold mostAt bestAt
  by_cases h : m < f.mi.toNat
  · rw [if_pos h, show f.mi.toNat - m = (f.mi.toNat - (m + 1)) + 1 by omega]
    show max 0 (maxF _ (inCan g f c (f.mi.toNat - (f.mi.toNat - (m + 1)))) _ _) = _
    rw [show f.mi.toNat - (f.mi.toNat - (m + 1)) = m + 1 by omega]
    rfl
  · rw [if_neg h, show f.mi.toNat - m = 0 by omega]
    rfl
theorem best_le {g : Mat} {f : Fg} {c : Ct} (m p : Nat) : -1 ≤ bestAt g f c m p ∧ bestAt g f c m p ≤ f.mi.toNat := by
  unfold bestAt
  split
  · obtain ⟨h1, -, h3⟩ := maxF_spec (inCan g f c (m + 1)) (fun q => stay1 p q + mostAt g f c (m + 1) q) (nxt g f.pl.toNat p) (-1)
    refine ⟨h1, ?_⟩
    rcases h3 with h | ⟨x, hx, hc, he⟩
    · rw [h]; omega
    · rw [he]
      have h1 := most_le (g := g) (f := f) (c := c) (f.mi.toNat - (m + 1)) x
      have h2 := stay_nn p x
      show stay1 p x + mostK g f c (f.mi.toNat - (m + 1)) x ≤ _
      omega
  · omega
theorem stR_le {g : Mat} {f : Fg} {c : Ct} : ∀ (m p : Nat), -100 ≤ stR g f c m p ∧ stR g f c m p ≤ m
  | 0, p => by unfold stR; omega
  | m + 1, p => by
    unfold stR
    obtain ⟨h1, -, h3⟩ := maxF_spec (fun q => inCan g f c (m + 1) p && inCan g f c m q && decide (g q p ≤ 1)) (fun q => stR g f c m q + stay1 p q) (List.range f.pl.toNat) (-100)
    refine ⟨h1, ?_⟩
    rcases h3 with h | ⟨x, hx, hc, he⟩
    · rw [h]; omega
    · rw [he]
      have h1 := stR_le (g := g) (f := f) (c := c) m x
      have h2 := stay_nn p x
      omega
section
variable {f : Fg} {c : Ct}
theorem Fwd.mem {m p : Nat} {s : Int} (h : Fwd (farM f) f c m p s) : p ∈ canN (farM f) f c m := by
  cases m with
  | zero => exact h.1
  | succ m => exact h.1
theorem Bwd.mem {k p : Nat} {s : Int} (h : Bwd (farM f) f c k p s) : p ∈ canN (farM f) f c (f.mi.toNat - k) := by
  cases k with
  | zero => exact h.1
  | succ k => exact h.1
theorem Fwd.nn : ∀ {m p : Nat} {s : Int}, Fwd (farM f) f c m p s → 0 ≤ s
  | 0, p, s, h => by rw [h.2]; omega
  | m + 1, p, s, ⟨_, q, s', h, _, e⟩ => by have := Fwd.nn h; have := stay_nn p q; omega
theorem Bwd.nn : ∀ {k p : Nat} {s : Int}, Bwd (farM f) f c k p s → 0 ≤ s
  | 0, p, s, h => by rw [h.2]; omega
  | k + 1, p, s, ⟨_, q, s', h, _, e⟩ => by have := Bwd.nn h; have := stay_nn p q; omega
theorem fwd_top : ∀ {m p : Nat}, m ≤ f.mi.toNat → p ∈ canN (farM f) f c m → Fwd (farM f) f c m p (stR (farM f) f c m p) ∧ ∀ s, Fwd (farM f) f c m p s → s ≤ stR (farM f) f c m p
  | 0, p, _, hp => ⟨⟨hp, rfl⟩, fun s h => by rw [h.2]; exact Int.le_refl _⟩
  | m + 1, p, hm, hp => by
    unfold stR
    obtain ⟨h1, h2, h3⟩ := maxF_spec (fun q => inCan (farM f) f c (m + 1) p && inCan (farM f) f c m q && decide (farM f q p ≤ 1)) (fun q => stR (farM f) f c m q + stay1 p q) (List.range f.pl.toNat) (-100)
    have hup : ∀ q, q ∈ canN (farM f) f c m → farM f q p ≤ 1 → stR (farM f) f c m q + stay1 p q ≤ maxF (List.range f.pl.toNat) (fun q => inCan (farM f) f c (m + 1) p && inCan (farM f) f c m q && decide (farM f q p ≤ 1)) (fun q => stR (farM f) f c m q + stay1 p q) (-100) := fun q hq hg =>
      h2 q (List.mem_range.2 (can_lt (by omega) hq)) (by simp only [Bool.and_eq_true, decide_eq_true_eq]; exact ⟨⟨inCan_iff.2 hp, inCan_iff.2 hq⟩, hg⟩)
    constructor
    · refine ⟨hp, ?_⟩
      rcases h3 with h | ⟨q, hq, hcq, he⟩
      · obtain ⟨q, hq, hg⟩ := can_back hm hp
        have h4 := hup q hq hg
        have h5 := Fwd.nn (fwd_top (by omega) hq).1
        have h6 := stay_nn p q
        omega
      · simp only [Bool.and_eq_true, decide_eq_true_eq] at hcq
        obtain ⟨⟨_, h5⟩, h6⟩ := hcq
        exact ⟨q, _, (fwd_top (by omega) (inCan_iff.1 h5)).1, h6, he⟩
    · rintro s ⟨_, q, s', hs, hg, rfl⟩
      have h4 := (fwd_top (by omega) hs.mem).2 s' hs
      have h5 := hup q hs.mem hg
      omega
theorem bwd_top : ∀ {k p : Nat}, k ≤ f.mi.toNat → p ∈ canN (farM f) f c (f.mi.toNat - k) → Bwd (farM f) f c k p (mostK (farM f) f c k p) ∧ (∀ s, Bwd (farM f) f c k p s → s ≤ mostK (farM f) f c k p)
  | 0, p, _, hp => ⟨⟨hp, rfl⟩, fun s h => by rw [h.2]; exact Int.le_refl _⟩
  | k + 1, p, hk, hp => by
    unfold mostK
    have ek : f.mi.toNat - (k + 1) + 1 = f.mi.toNat - k := by omega
    obtain ⟨h1, h2, h3⟩ := maxF_spec (inCan (farM f) f c (f.mi.toNat - k)) (fun q => stay1 p q + mostK (farM f) f c k q) (nxt (farM f) f.pl.toNat p) (-1)
    have hup : ∀ q, q ∈ canN (farM f) f c (f.mi.toNat - k) → farM f p q ≤ 1 → stay1 p q + mostK (farM f) f c k q ≤ maxF (nxt (farM f) f.pl.toNat p) (inCan (farM f) f c (f.mi.toNat - k)) (fun q => stay1 p q + mostK (farM f) f c k q) (-1) := fun q hq hg =>
      h2 q (mem_nxt.2 ⟨can_lt (by omega) hq, hg⟩) (inCan_iff.2 hq)
    obtain ⟨q0, hq0, hg0⟩ := can_on (show f.mi.toNat - (k + 1) + 1 ≤ f.mi.toNat by omega) hp
    rw [ek] at hq0
    have h4 := hup q0 hq0 hg0
    have h5 := (most_le (g := farM f) (f := f) (c := c) k q0).1
    have h6 := stay_nn p q0
    constructor
    · refine ⟨hp, ?_⟩
      rcases h3 with h | ⟨q, hq, hcq, he⟩
      · omega
      · have hq2 := inCan_iff.1 hcq
        have h7 := hup q hq2 (mem_nxt.1 hq).2
        refine ⟨q, _, (bwd_top (by omega) hq2).1, (mem_nxt.1 hq).2, ?_⟩
        rw [he] at h4 h7 ⊢
        omega
    · rintro s ⟨_, q, s', hs, hg, rfl⟩
      have h7 := (bwd_top (by omega) hs.mem).2 s' hs
      have h8 := hup q hs.mem hg
      omega
/-- All stays of a way, parted at a minute. -/
def Both (f : Fg) (c : Ct) (m : Nat) (s : Int) : Prop := ∃ p s1 s2, Fwd (farM f) f c m p s1 ∧ Bwd (farM f) f c (f.mi.toNat - m) p s2 ∧ s = s1 + s2
theorem both_step {m : Nat} (hm : m < f.mi.toNat) (s : Int) : Both f c m s ↔ Both f c (m + 1) s := by
  have ek : f.mi.toNat - m = (f.mi.toNat - (m + 1)) + 1 := by omega
  constructor
  · rintro ⟨p, s1, s2, h1, h2, rfl⟩
    rw [ek] at h2
    obtain ⟨hp, q, s', h3, hg, rfl⟩ := h2
    refine ⟨q, s1 + stay1 p q, s', ⟨?_, p, s1, h1, hg, ?_⟩, h3, by omega⟩
    · have := h3.mem
      rwa [show f.mi.toNat - (f.mi.toNat - (m + 1)) = m + 1 by omega] at this
    · unfold stay1
      by_cases e : p = q
      · rw [if_pos e, if_pos e.symm]
      · rw [if_neg e, if_neg (fun h => e h.symm)]
  · rintro ⟨p, s1, s2, ⟨hp, q, s', h1, hg, rfl⟩, h2, rfl⟩
    refine ⟨q, s', s2 + stay1 q p, h1, ?_, ?_⟩
    · rw [ek]
      refine ⟨?_, p, s2, h2, hg, rfl⟩
      have := h1.mem
      rwa [show f.mi.toNat - (f.mi.toNat - (m + 1) + 1) = m by omega]
    · unfold stay1
      by_cases e : p = q
      · rw [if_pos e, if_pos e.symm]; omega
      · rw [if_neg e, if_neg (fun h => e h.symm)]; omega
theorem both_all (s : Int) : ∀ m, m ≤ f.mi.toNat → (Both f c 0 s ↔ Both f c m s)
  | 0, _ => Iff.rfl
  | m + 1, h => (both_all s m (by omega)).trans (both_step (by omega) s)
theorem still_is (hne : ∃ p, p ∈ canN (farM f) f c 0) : stillM (farM f) f c = stillR (farM f) f c := by
  -- the program's number
  have hB : ∀ p, p ∈ canN (farM f) f c 0 → Bwd (farM f) f c f.mi.toNat p (mostK (farM f) f c f.mi.toNat p) ∧ ∀ s, Bwd (farM f) f c f.mi.toNat p s → s ≤ mostK (farM f) f c f.mi.toNat p := fun p hp =>
    bwd_top (Nat.le_refl _) (by rwa [Nat.sub_self])
  have e0 : ∀ p, mostK (farM f) f c f.mi.toNat p = max 0 (bestAt (farM f) f c 0 p) := fun p => most_at (Nat.zero_le _) p
  obtain ⟨a1, a2, a3⟩ := maxF_spec (fun _ => true) (bestAt (farM f) f c 0) (canN (farM f) f c 0) 0
  have X1 : ∃ p, Bwd (farM f) f c f.mi.toNat p (stillM (farM f) f c) := by
    unfold stillM
    rcases a3 with h | ⟨p, hp, _, he⟩
    · obtain ⟨p, hp⟩ := hne
      have h2 := a2 p hp rfl
      have h3 := (hB p hp).1
      rw [e0, show max 0 (bestAt (farM f) f c 0 p) = 0 by omega] at h3
      rw [h]; exact ⟨p, h3⟩
    · have h3 := (hB p hp).1
      rw [e0, show max 0 (bestAt (farM f) f c 0 p) = bestAt (farM f) f c 0 p by omega] at h3
      rw [he]; exact ⟨p, h3⟩
  have X2 : ∀ p s, Bwd (farM f) f c f.mi.toNat p s → s ≤ stillM (farM f) f c := fun p s hs => by
    have hp := hs.mem
    rw [Nat.sub_self] at hp
    have h1 := (hB p hp).2 s hs
    have h2 := a2 p hp rfl
    rw [e0] at h1
    unfold stillM
    omega
  obtain ⟨b1, b2, b3⟩ := maxF_spec (fun _ => true) (stR (farM f) f c f.mi.toNat) (List.range f.pl.toNat) 0
  have Y2 : ∀ p s, Fwd (farM f) f c f.mi.toNat p s → s ≤ stillR (farM f) f c := fun p s hs => by
    have hp := hs.mem
    have h1 := (fwd_top (Nat.le_refl _) hp).2 s hs
    have h2 := b2 p (List.mem_range.2 (can_lt (Nat.le_refl _) hp)) rfl
    unfold stillR
    omega
  have toF : ∀ s, (∃ p, Bwd (farM f) f c f.mi.toNat p s) → ∃ p, Fwd (farM f) f c f.mi.toNat p s := by
    rintro s ⟨p, h⟩
    have hp := h.mem
    rw [Nat.sub_self] at hp
    have h1 : Both f c 0 s := ⟨p, 0, s, ⟨hp, rfl⟩, h, by omega⟩
    obtain ⟨q, s1, s2, h2, h3, rfl⟩ := (both_all s f.mi.toNat (Nat.le_refl _)).1 h1
    rw [Nat.sub_self] at h3
    refine ⟨q, ?_⟩
    rw [h3.2, Int.add_zero]; exact h2
  have toB : ∀ s, (∃ p, Fwd (farM f) f c f.mi.toNat p s) → ∃ p, Bwd (farM f) f c f.mi.toNat p s := by
    rintro s ⟨p, h⟩
    have hp := h.mem
    have h1 : Both f c f.mi.toNat s := ⟨p, s, 0, h, by rw [Nat.sub_self]; exact ⟨hp, rfl⟩, by omega⟩
    obtain ⟨q, s1, s2, h2, h3, rfl⟩ := (both_all s f.mi.toNat (Nat.le_refl _)).2 h1
    rw [h2.2, Int.zero_add]
    exact ⟨q, h3⟩
  obtain ⟨pF, hF⟩ := toF _ X1
  have hle1 := Y2 pF _ hF
  have hY0 : 0 ≤ stillM (farM f) f c := a1
  have Y1 : ∃ p, Fwd (farM f) f c f.mi.toNat p (stillR (farM f) f c) := by
    rcases b3 with h | ⟨p, hp, _, he⟩
    · have e : stillR (farM f) f c = 0 := h
      have e2 : stillM (farM f) f c = stillR (farM f) f c := by omega
      rw [← e2]; exact ⟨pF, hF⟩
    · have e : stillR (farM f) f c = stR (farM f) f c f.mi.toNat p := he
      by_cases hp2 : p ∈ canN (farM f) f c f.mi.toNat
      · rw [e]; exact ⟨p, (fwd_top (Nat.le_refl _) hp2).1⟩
      · -- a place at which it cannot be: nought at most
        by_cases hz : f.mi.toNat = 0
        · have h0 : stR (farM f) f c f.mi.toNat p = 0 := by rw [hz]; rfl
          have e2 : stillM (farM f) f c = stillR (farM f) f c := by omega
          rw [← e2]; exact ⟨pF, hF⟩
        · obtain ⟨n, hn⟩ : ∃ n, f.mi.toNat = n + 1 := ⟨f.mi.toNat - 1, by omega⟩
          have h0 : stR (farM f) f c f.mi.toNat p = -100 := by
            rw [hn]
            unfold stR
            rcases (maxF_spec (fun q => inCan (farM f) f c (n + 1) p && inCan (farM f) f c n q && decide (farM f q p ≤ 1)) (fun q => stR (farM f) f c n q + stay1 p q) (List.range f.pl.toNat) (-100)).2.2 with h | ⟨q, _, hcq, _⟩
            · exact h
            · simp only [Bool.and_eq_true] at hcq
              have := inCan_iff.1 hcq.1.1
              rw [← hn] at this
              exact absurd this hp2
          omega
  obtain ⟨pB, hB2⟩ := toB _ Y1
  have hle2 := X2 pB _ hB2
  omega
end
theorem can_last {f : Fg} (h : FogOK f) {c : Ct} (hc : c ∈ f.ct) (hl : lostF (farM f) f c = false) : ∃ p, p ∈ canN (farM f) f c f.mi.toNat := by
  unfold lostF at hl
  have h0 : countM (farM f) f c allF ≠ 0 := by simpa using hl
  rw [count_come h hc] at h0
  have h1 := sumN_nonneg (n := f.pl.toNat) (h := comeM (farM f) f c allF f.mi.toNat) (fun k _ => come_nonneg _ _)
  obtain ⟨p, hp, hq⟩ := (sumN_pos (fun k _ => come_nonneg _ _)).1 (show 0 < sumN f.pl.toNat (comeM (farM f) f c allF f.mi.toNat) by omega)
  refine ⟨p, (can_mem (Nat.le_refl _)).2 ⟨hp, hq, ?_⟩⟩
  unfold contM
  rw [if_neg (by omega)]; omega
theorem can_some {f : Fg} (h : FogOK f) {c : Ct} (hc : c ∈ f.ct) (hl : lostF (farM f) f c = false) : ∀ k, k ≤ f.mi.toNat → ∃ p, p ∈ canN (farM f) f c (f.mi.toNat - k)
  | 0, _ => can_last h hc hl
  | k + 1, hk => by
    obtain ⟨p, hp⟩ := can_some h hc hl k (by omega)
    rw [show f.mi.toNat - k = f.mi.toNat - (k + 1) + 1 by omega] at hp
    obtain ⟨q, hq, -⟩ := can_back (by omega) hp
    exact ⟨q, hq⟩
theorem canL_ne {f : Fg} (h : FogOK f) {c : Ct} (hc : c ∈ f.ct) (hl : lostF (farM f) f c = false) : ∀ l ∈ canL (farM f) f c, l ≠ [] := by
  intro l hm
  unfold canL at hm
  obtain ⟨m, hm1, rfl⟩ := List.mem_map.1 hm
  have hm2 := List.mem_range.1 hm1
  obtain ⟨p, hp⟩ := can_some h hc hl (f.mi.toNat - m) (by omega)
  rw [show f.mi.toNat - (f.mi.toNat - m) = m by omega] at hp
  intro e
  unfold natI at e
  have := List.map_eq_nil_iff.1 e
  rw [this] at hp
  cases hp
/-! ### Where two carts can have met -/
def metAt (g : Mat) (f : Fg) (c d : Ct) (m : Nat) : Bool := (canN g f c m).any fun p => inCan g f d m p
def metM (g : Mat) (f : Fg) (c d : Ct) : List Int := natI ((List.range (f.mi.toNat + 1)).filter (metAt g f c d))
def metR (f : Fg) (c d : Ct) (m : Nat) : Bool := (List.range f.pl.toNat).any fun p => inCan (farM f) f c m p && inCan (farM f) f d m p
theorem met_is {f : Fg} {c d : Ct} {m : Nat} (hm : m ≤ f.mi.toNat) : metR f c d m = metAt (farM f) f c d m := by
  rw [Bool.eq_iff_iff]
  unfold metR metAt
  simp only [List.any_eq_true, Bool.and_eq_true, List.mem_range]
  constructor
  · rintro ⟨p, hp, h1, h2⟩
    exact ⟨p, inCan_iff.1 h1, h2⟩
  · rintro ⟨p, hp, h2⟩
    exact ⟨p, can_lt hm hp, inCan_iff.2 hp, h2⟩
end Go.Proofs.YtlonpgbapiemcaaGreat
