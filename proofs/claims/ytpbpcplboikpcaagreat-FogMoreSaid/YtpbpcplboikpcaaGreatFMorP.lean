/- The plain side of FogMore: what one report more leaves of the walks. No program stands here. -/
import Derived.Test.YtpbpcplboikpcaaGreatFStlP
import Derived.Test.YtpbpcplboikpcaaGreatFMadeP
namespace Go.Proofs.YtpbpcplboikpcaaGreat
open Go Go.RowKit
set_option linter.unusedVariables false
set_option linter.unusedSimpArgs false

/-- A cart with one report more. -/
def addR (c : Ct) (r : Rp) : Ct := ⟨c.st, c.rp ++ [r]⟩
section
variable {g : Mat} {f : Fg} {c : Ct} {r : Rp}
theorem agC_add (m p : Nat) : agC g f (addR c r) allF m p = (agC g f c allF m p && (!decide ((blAt f r.bl).mi = (m : Int)) || (heardM g (blAt f r.bl) p == r.hd))) := by
  rw [Bool.eq_iff_iff]
  simp only [Bool.and_eq_true, Bool.or_eq_true, Bool.not_eq_true', decide_eq_false_iff_not, beq_iff_eq]
  rw [agC_iff, agC_iff]
  unfold addR
  simp only [List.mem_append, List.mem_singleton]
  constructor
  · intro h
    refine ⟨fun r' hr => h r' (.inl hr), ?_⟩
    by_cases e : (blAt f r.bl).mi = (m : Int)
    · exact .inr (h r (.inr rfl) e)
    · exact .inl e
  · rintro ⟨h1, h2⟩ r' (hr | rfl) e
    · exact h1 r' hr e
    · rcases h2 with h2 | h2
      · exact absurd e h2
      · exact h2
theorem agC_off {m : Nat} (hm : (blAt f r.bl).mi ≠ (m : Int)) (p : Nat) : agC g f (addR c r) allF m p = agC g f c allF m p := by
  rw [agC_add, decide_eq_false hm]; simp
theorem agC_on {m : Nat} (hm : (blAt f r.bl).mi = (m : Int)) (p : Nat) : agC g f (addR c r) allF m p = (agC g f c allF m p && (heardM g (blAt f r.bl) p == r.hd)) := by
  rw [agC_add, decide_eq_true hm]; simp
theorem come_off : ∀ (m p : Nat), (m : Int) < (blAt f r.bl).mi → comeM g f (addR c r) allF m p = comeM g f c allF m p
  | 0, p, h => by
    unfold comeM
    rw [agC_off (by omega)]; rfl
  | m + 1, p, h => by
    rw [come_succ, come_succ, agC_off (by omega)]
    rw [sumN_congr (h' := fun q => if g q p ≤ 1 then comeM g f c allF m q else 0) (fun q _ => by rw [come_off m q (by omega)])]
theorem come_on : ∀ (m p : Nat), (blAt f r.bl).mi = (m : Int) → comeM g f (addR c r) allF m p = if heardM g (blAt f r.bl) p = r.hd then comeM g f c allF m p else 0
  | 0, p, h => by
    unfold comeM
    rw [agC_on h]
    by_cases e : heardM g (blAt f r.bl) p = r.hd
    · have e2 : (heardM g (blAt f r.bl) p == r.hd) = true := by simpa using e
      rw [if_pos e, e2, Bool.and_true]; rfl
    · have e2 : (heardM g (blAt f r.bl) p == r.hd) = false := by simpa using e
      rw [if_neg e, e2, Bool.and_false]; rfl
  | m + 1, p, h => by
    rw [come_succ, come_succ, agC_on h]
    rw [sumN_congr (h' := fun q => if g q p ≤ 1 then comeM g f c allF m q else 0) (fun q _ => by rw [come_off m q (by omega)])]
    by_cases e : heardM g (blAt f r.bl) p = r.hd
    · have e2 : (heardM g (blAt f r.bl) p == r.hd) = true := by simpa using e
      rw [if_pos e, e2, Bool.and_true]
    · have e2 : (heardM g (blAt f r.bl) p == r.hd) = false := by simpa using e
      rw [if_neg e, e2, Bool.and_false]; simp
theorem rest_off : ∀ (k p : Nat), (blAt f r.bl).mi < ((f.mi.toNat - k : Nat) : Int) → restM g f (addR c r) allF (f.mi.toNat - k) p = restM g f c allF (f.mi.toNat - k) p
  | 0, p, h => by
    rw [Nat.sub_zero, restM_end, restM_end, agC_off (by omega)]
  | k + 1, p, h => by
    by_cases hk : f.mi.toNat - k = 0
    · rw [show f.mi.toNat - (k + 1) = f.mi.toNat - k by omega]
      exact rest_off k p (by omega)
    · rw [restM_step (by omega), restM_step (by omega), agC_off (by omega), show f.mi.toNat - (k + 1) + 1 = f.mi.toNat - k by omega, show restM g f (addR c r) allF (f.mi.toNat - k) = restM g f c allF (f.mi.toNat - k) from funext fun q => rest_off k q (by omega)]
theorem cont_on {m : Nat} (hm : (blAt f r.bl).mi = (m : Int)) (hmi : m ≤ f.mi.toNat) (p : Nat) : contM g f (addR c r) allF m p = contM g f c allF m p := by
  unfold contM
  split
  · refine sumN_congr fun q _ => ?_
    have h1 := rest_off (g := g) (f := f) (c := c) (r := r) (f.mi.toNat - (m + 1)) q (by omega)
    rw [show f.mi.toNat - (f.mi.toNat - (m + 1)) = m + 1 by omega] at h1
    rw [h1]
  · rfl
theorem count_at (h : FogOK f) (hc : c ∈ f.ct) {m : Nat} (hm : m ≤ f.mi.toNat) : countM g f c allF = sumN f.pl.toNat fun p => comeM g f c allF m p * contM g f c allF m p := by
  rw [count_come h hc, ← flow m hm, flow f.mi.toNat (Nat.le_refl _)]
  exact sumN_congr fun p _ => by unfold contM; rw [if_neg (by omega), Int.mul_one]
end
/-! ### The fog with one report more -/
section
variable {f : Fg} {c : Ct} {r : Rp}
/-- What does not name carts does not change with them. -/
theorem agL_ct (g : Mat) (f : Fg) (x : List Ct) (sel : Int → Bool) (m p : Nat) : ∀ (l : List Rp) (i : Nat), agL g { f with ct := x } sel m p i l = agL g f sel m p i l
  | [], _ => rfl
  | r :: l, i => by
    unfold agL
    rw [agL_ct g f x sel m p l (i + 1)]; rfl
theorem agC_ct (g : Mat) (f : Fg) (x : List Ct) (c : Ct) (sel : Int → Bool) (m p : Nat) : agC g { f with ct := x } c sel m p = agC g f c sel m p := agL_ct g f x sel m p c.rp 0
theorem come_ct (g : Mat) (f : Fg) (x : List Ct) (c : Ct) (sel : Int → Bool) : ∀ m p, comeM g { f with ct := x } c sel m p = comeM g f c sel m p
  | 0, p => by
    unfold comeM
    rw [agC_ct]
  | m + 1, p => by
    rw [come_succ, come_succ, agC_ct]
    have e : ∀ q, comeM g { f with ct := x } c sel m q = comeM g f c sel m q := come_ct g f x c sel m
    simp only [e]
theorem rest_ct (g : Mat) (f : Fg) (x : List Ct) (c : Ct) (sel : Int → Bool) : ∀ k p, restK g { f with ct := x } c sel k p = restK g f c sel k p
  | 0, p => by
    unfold restK
    rw [agC_ct]
  | k + 1, p => by
    unfold restK
    rw [agC_ct, show restK g { f with ct := x } c sel k = restK g f c sel k from funext (rest_ct g f x c sel k)]
theorem count_ct (g : Mat) (f : Fg) (x : List Ct) (c : Ct) (sel : Int → Bool) : countM g { f with ct := x } c sel = countM g f c sel := by
  unfold countM restM
  rw [show restK g { f with ct := x } c sel = restK g f c sel from funext fun k => funext (rest_ct g f x c sel k)]
theorem can_ct (g : Mat) (f : Fg) (x : List Ct) (c : Ct) : ∀ m, canN g { f with ct := x } c m = canN g f c m
  | 0 => by
    unfold canN restM
    rw [show restK g { f with ct := x } c canN.allS = restK g f c canN.allS from funext fun k => funext (rest_ct g f x c _ k)]
  | m + 1 => by
    unfold canN restM
    rw [can_ct g f x c m, show restK g { f with ct := x } c canN.allS = restK g f c canN.allS from funext fun k => funext (rest_ct g f x c _ k)]
theorem inCan_ct (g : Mat) (f : Fg) (x : List Ct) (c : Ct) : inCan g { f with ct := x } c = inCan g f c := by
  funext m q
  unfold inCan
  rw [can_ct]
theorem most_ct (g : Mat) (f : Fg) (x : List Ct) (c : Ct) : ∀ k p, mostK g { f with ct := x } c k p = mostK g f c k p
  | 0, p => rfl
  | k + 1, p => by
    unfold mostK
    rw [inCan_ct, show mostK g { f with ct := x } c k = mostK g f c k from funext (most_ct g f x c k)]
theorem still_ct (g : Mat) (f : Fg) (x : List Ct) (c : Ct) : stillM g { f with ct := x } c = stillM g f c := by
  unfold stillM bestAt mostAt
  rw [can_ct, inCan_ct, show mostK g { f with ct := x } c = mostK g f c from funext fun k => funext (most_ct g f x c k)]
/-! ### Counts -/
structure AddOK (f : Fg) (c : Ct) (r : Rp) : Prop where
  ok : FogOK f
  mem : c ∈ f.ct
  okA : FogOK { f with ct := [addR c r] }
  bl : 0 ≤ r.bl ∧ r.bl < f.bl.length
theorem bl_at (h : FogOK f) (hb : 0 ≤ r.bl ∧ r.bl < f.bl.length) : ∃ m : Nat, (blAt f r.bl).mi = (m : Int) ∧ m ≤ f.mi.toNat := by
  obtain ⟨b, hb1⟩ : ∃ b, f.bl[r.bl.toNat]? = some b := ⟨_, List.getElem?_eq_getElem (by omega)⟩
  have hm := List.mem_of_getElem? hb1
  rw [blAt_get hb1]
  have := h.bl b hm
  exact ⟨b.mi.toNat, by omega, by omega⟩
theorem count_add (h : AddOK f c r) {m : Nat} (e : (blAt f r.bl).mi = (m : Int)) (hm : m ≤ f.mi.toNat) : countM (farM f) f (addR c r) allF = sumN f.pl.toNat fun p => if heardM (farM f) (blAt f r.bl) p = r.hd then comeM (farM f) f c allF m p * contM (farM f) f c allF m p else 0 := by
  have h1 := count_at (g := farM f) h.okA (c := addR c r) (by simp) (m := m) hm
  rw [count_ct] at h1
  rw [h1]
  refine sumN_congr fun p _ => ?_
  rw [come_ct]
  have h2 : contM (farM f) { f with ct := [addR c r] } (addR c r) allF m p = contM (farM f) f (addR c r) allF m p := by
    unfold contM restM
    rw [show restK (farM f) { f with ct := [addR c r] } (addR c r) allF = restK (farM f) f (addR c r) allF from funext fun k => funext (rest_ct _ f _ _ _ k)]
  rw [h2, come_on m p e, cont_on e hm]
  split
  · rfl
  · rw [Int.zero_mul]
/-- As many walks fit with a report as do not fit with the opposite one. -/
theorem count_both (h : AddOK f c ⟨r.bl, true⟩) (h' : AddOK f c ⟨r.bl, false⟩) : countM (farM f) f (addR c ⟨r.bl, true⟩) allF + countM (farM f) f (addR c ⟨r.bl, false⟩) allF = countM (farM f) f c allF := by
  obtain ⟨m, e, hm⟩ := bl_at h.ok h.bl
  rw [count_add h e hm, count_add h' e hm, count_at h.ok h.mem hm, ← sumN_add]
  refine sumN_congr fun p _ => ?_
  cases heardM (farM f) (blAt f r.bl) p <;> simp
/-- No walk fits with a report just if all places say the opposite. -/
theorem count_no (h : AddOK f c r) : countM (farM f) f (addR c r) allF = 0 ↔ ∀ p ∈ canN (farM f) f c (blAt f r.bl).mi.toNat, heardM (farM f) (blAt f r.bl) p ≠ r.hd := by
  obtain ⟨m, e, hm⟩ := bl_at h.ok h.bl
  have em : (blAt f r.bl).mi.toNat = m := by omega
  rw [em, count_add h e hm]
  have hp := sumN_pos (n := f.pl.toNat) (h := fun p => if heardM (farM f) (blAt f r.bl) p = r.hd then comeM (farM f) f c allF m p * contM (farM f) f c allF m p else 0) (fun p _ => by
    split
    · exact Int.mul_nonneg (come_nonneg _ _) (cont_nonneg _ _)
    · exact Int.le_refl _)
  have hn := sumN_nonneg (n := f.pl.toNat) (h := fun p => if heardM (farM f) (blAt f r.bl) p = r.hd then comeM (farM f) f c allF m p * contM (farM f) f c allF m p else 0) (fun p _ => by
    split
    · exact Int.mul_nonneg (come_nonneg _ _) (cont_nonneg _ _)
    · exact Int.le_refl _)
  constructor
  · intro h0 p hpc hh
    obtain ⟨q1, q2, q3⟩ := (can_mem hm).1 hpc
    have : 0 < sumN f.pl.toNat fun p => if heardM (farM f) (blAt f r.bl) p = r.hd then comeM (farM f) f c allF m p * contM (farM f) f c allF m p else 0 :=
      hp.2 ⟨p, q1, by rw [if_pos hh]; exact Int.mul_pos q2 q3⟩
    omega
  · intro hall
    refine Int.le_antisymm ?_ hn
    refine Int.not_lt.1 fun hlt => ?_
    obtain ⟨p, q1, q2⟩ := hp.1 hlt
    split at q2
    · rename_i hh
      refine hall p ((can_mem hm).2 ⟨q1, ?_, ?_⟩) hh
      · rcases Int.lt_or_eq_of_le (come_nonneg (g := farM f) (f := f) (c := c) (sel := allF) m p) with h1 | h1
        · exact h1
        · rw [← h1, Int.zero_mul] at q2; omega
      · rcases Int.lt_or_eq_of_le (cont_nonneg (g := farM f) (f := f) (c := c) (sel := allF) m p) with h1 | h1
        · exact h1
        · rw [← h1, Int.mul_zero] at q2; omega
    · omega
/-! ### Places and stays -/
theorem ag_add {m p : Nat} (h : agC (farM f) f (addR c r) allF m p = true) : agC (farM f) f c allF m p = true := by
  rw [agC_add, Bool.and_eq_true] at h; exact h.1
theorem come_add : ∀ {m p : Nat}, 0 < comeM (farM f) f (addR c r) allF m p → 0 < comeM (farM f) f c allF m p
  | 0, p, h => by
    have ha := ag_add (come_ag h)
    unfold comeM at h ⊢
    rw [ha]
    split at h
    · exact h
    · omega
  | m + 1, p, h => by
    obtain ⟨h1, q, hq, hg, h2⟩ := (come_pos m p).1 h
    exact (come_pos m p).2 ⟨ag_add h1, q, hq, hg, come_add h2⟩
theorem cont_add : ∀ (k : Nat) {p : Nat}, 0 < contM (farM f) f (addR c r) allF (f.mi.toNat - k) p → 0 < contM (farM f) f c allF (f.mi.toNat - k) p
  | 0, p, h => by unfold contM; rw [if_neg (by omega)]; decide
  | k + 1, p, h => by
    by_cases hk : f.mi.toNat - k = 0
    · rw [show f.mi.toNat - (k + 1) = f.mi.toNat - k by omega] at h ⊢
      exact cont_add k h
    · have hm : f.mi.toNat - (k + 1) < f.mi.toNat := by omega
      obtain ⟨q, hq, hg, h1⟩ := (cont_pos hm p).1 h
      obtain ⟨h2, h3⟩ := (rest_pos (by omega) q).1 h1
      rw [show f.mi.toNat - (k + 1) + 1 = f.mi.toNat - k by omega] at h2 h3
      refine (cont_pos hm p).2 ⟨q, hq, hg, (rest_pos (by omega) q).2 ?_⟩
      rw [show f.mi.toNat - (k + 1) + 1 = f.mi.toNat - k by omega]
      exact ⟨ag_add h2, cont_add k h3⟩
/-- One report more leaves no place at which the cart could not be before. -/
theorem can_add {m p : Nat} (hm : m ≤ f.mi.toNat) (h : p ∈ canN (farM f) f (addR c r) m) : p ∈ canN (farM f) f c m := by
  obtain ⟨h1, h2, h3⟩ := (can_mem hm).1 h
  refine (can_mem hm).2 ⟨h1, come_add h2, ?_⟩
  have := cont_add (f.mi.toNat - m) (p := p) (c := c) (r := r) (by rw [show f.mi.toNat - (f.mi.toNat - m) = m by omega]; exact h3)
  rwa [show f.mi.toNat - (f.mi.toNat - m) = m by omega] at this
theorem bwd_add : ∀ {k p : Nat} {s : Int}, k ≤ f.mi.toNat → Bwd (farM f) f (addR c r) k p s → Bwd (farM f) f c k p s
  | 0, p, s, _, h => ⟨can_add (Nat.le_refl _) h.1, h.2⟩
  | k + 1, p, s, hk, ⟨h1, q, s', h2, hg, e⟩ => ⟨can_add (by omega) h1, q, s', bwd_add (by omega) h2, hg, e⟩
theorem still_add : stillM (farM f) f (addR c r) ≤ stillM (farM f) f c := by
  have h0 := still_nn f c
  rcases (maxF_spec (fun _ => true) (bestAt (farM f) f (addR c r) 0) (canN (farM f) f (addR c r) 0) 0).2.2 with h | ⟨p, hp, -, he⟩
  · have e : stillM (farM f) f (addR c r) = 0 := h
    omega
  · have e : stillM (farM f) f (addR c r) = bestAt (farM f) f (addR c r) 0 p := he
    have h1 : Bwd (farM f) f (addR c r) f.mi.toNat p (mostK (farM f) f (addR c r) f.mi.toNat p) := (bwd_top (Nat.le_refl _) (by rw [Nat.sub_self]; exact hp)).1
    have h2 := still_bwd (bwd_add (Nat.le_refl _) h1)
    have h3 := most_at (g := farM f) (f := f) (c := addR c r) (Nat.zero_le _) p
    unfold mostAt at h3
    rw [Nat.sub_zero] at h3
    omega
end
end Go.Proofs.YtpbpcplboikpcaaGreat
