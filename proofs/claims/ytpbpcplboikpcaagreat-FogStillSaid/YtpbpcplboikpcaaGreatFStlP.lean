/- The plain side of FogStill: no walk that fits stays more often than is told, and all walks that fit are counted. No program stands here. -/
import Derived.Test.YtpbpcplboikpcaaGreatFTripP
namespace Go.Proofs.YtpbpcplboikpcaaGreat
open Go Go.RowKit
set_option linter.unusedVariables false
set_option linter.unusedSimpArgs false

section
variable {f : Fg} {c : Ct} {l : List Int}
theorem still_nn (f : Fg) (c : Ct) : 0 ≤ stillM (farM f) f c := (maxF_spec (fun _ => true) (bestAt (farM f) f c 0) (canN (farM f) f c 0) 0).1
theorem still_top (f : Fg) (c : Ct) : stillM (farM f) f c ≤ (f.mi.toNat : Int) := by
  unfold stillM
  rcases (maxF_spec (fun _ => true) (bestAt (farM f) f c 0) (canN (farM f) f c 0) 0).2.2 with h | ⟨x, -, -, h⟩
  · rw [h]; omega
  · rw [h]; exact (best_le 0 x).2
theorem still_bwd {p : Nat} {s : Int} (h : Bwd (farM f) f c f.mi.toNat p s) : s ≤ stillM (farM f) f c := by
  have hp := h.mem
  have h1 := (bwd_top (Nat.le_refl _) hp).2 s h
  rw [Nat.sub_self] at hp
  have h2 := (maxF_spec (fun _ => true) (bestAt (farM f) f c 0) (canN (farM f) f c 0) 0).2.1 p hp rfl
  have h3 := most_at (g := farM f) (f := f) (c := c) (Nat.zero_le _) p
  have h4 := still_nn f c
  unfold mostAt at h3
  rw [Nat.sub_zero] at h3
  unfold stillM at h4 ⊢
  omega
/-- How often a walk stays in its last steps. -/
def stayK (l : List Int) (M : Nat) : Nat → Int
  | 0 => 0
  | k + 1 => stayK l M k + stay1 (wlAt l (M - (k + 1))) (wlAt l (M - k))
theorem bwd_walk (h : FogOK f) (hc : c ∈ f.ct) (hl : fitsM (farM f) f c l = true) : ∀ k, k ≤ f.mi.toNat → Bwd (farM f) f c k (wlAt l (f.mi.toNat - k)) (stayK l f.mi.toNat k)
  | 0, _ => ⟨fits_can h hc hl (Nat.le_refl _), rfl⟩
  | k + 1, hk => by
    have h1 := bwd_walk h hc hl k (by omega)
    have h2 := fits_step h hc hl (m := f.mi.toNat - (k + 1)) (by omega)
    rw [show f.mi.toNat - (k + 1) + 1 = f.mi.toNat - k by omega] at h2
    exact ⟨fits_can h hc hl (by omega), _, _, h1, h2, rfl⟩
/-- How often a walk stays in its first steps. -/
def staysTo (l : List Int) : Nat → Int
  | 0 => 0
  | m + 1 => staysTo l m + if l.getD m 0 = l.getD (m + 1) 0 then 1 else 0
theorem stays_same (h : FogOK f) (hc : c ∈ f.ct) (hl : fitsM (farM f) f c l = true) : ∀ k, k ≤ f.mi.toNat → staysTo l (f.mi.toNat - k) + stayK l f.mi.toNat k = staysTo l f.mi.toNat
  | 0, _ => by unfold stayK; simp
  | k + 1, hk => by
    rw [← stays_same h hc hl k (by omega)]
    have e : f.mi.toNat - k = f.mi.toNat - (k + 1) + 1 := by omega
    have e3 : stayK l f.mi.toNat (k + 1) = stayK l f.mi.toNat k + stay1 (wlAt l (f.mi.toNat - (k + 1))) (wlAt l (f.mi.toNat - k)) := rfl
    rw [e3, e]
    have h1 := (fits_at h hc hl (m := f.mi.toNat - (k + 1)) (by omega)).2.1
    have h2 := (fits_at h hc hl (m := f.mi.toNat - (k + 1) + 1) (by omega)).2.1
    show _ = staysTo l (f.mi.toNat - (k + 1)) + (if l.getD (f.mi.toNat - (k + 1)) 0 = l.getD (f.mi.toNat - (k + 1) + 1) 0 then 1 else 0) + _
    unfold stay1
    rw [h1, h2]
    by_cases e2 : wlAt l (f.mi.toNat - (k + 1)) = wlAt l (f.mi.toNat - (k + 1) + 1)
    · rw [if_pos e2, if_pos (by rw [e2])]; omega
    · rw [if_neg e2, if_neg (by omega)]; omega
theorem stays_le (h : FogOK f) (hc : c ∈ f.ct) (hl : fitsM (farM f) f c l = true) : staysTo l f.mi.toNat ≤ stillM (farM f) f c := by
  have h1 := bwd_walk h hc hl f.mi.toNat (Nat.le_refl _)
  have h2 := stays_same h hc hl f.mi.toNat (Nat.le_refl _)
  rw [Nat.sub_self] at h2
  rw [show staysTo l 0 = 0 from rfl] at h2
  have := still_bwd h1
  omega
theorem stays_le_self (l : List Int) : ∀ m : Nat, 0 ≤ staysTo l m ∧ staysTo l m ≤ (m : Int)
  | 0 => by unfold staysTo; omega
  | m + 1 => by
    have := stays_le_self l m
    unfold staysTo
    split <;> omega
/-- A cart that says nothing can have stayed all the time. -/
theorem still_free (h : FogOK f) (hc : c ∈ f.ct) (hr : c.rp = []) : stillM (farM f) f c = (f.mi.toNat : Int) := by
  have hne := h.ne c hc
  obtain ⟨p, hp⟩ : ∃ p, p ∈ c.st := by
    cases hs : c.st with
    | nil => rw [hs] at hne; simp at hne
    | cons x l => exact ⟨x, by simp⟩
  have hpl := h.pl
  have hb := h.st c hc p hp
  have key : ∀ k : Nat, k ≤ f.mi.toNat → Bwd (farM f) f c k p.toNat (k : Int) := fun k => by
    induction k with
    | zero => exact fun _ => ⟨can_start h hc hr hp (Nat.le_refl _), rfl⟩
    | succ k ih =>
      intro hk
      refine ⟨can_start h hc hr hp (by omega), _, _, ih (by omega), by rw [(far_ok h).dst.self _ (by omega)]; omega, ?_⟩
      unfold stay1
      rw [if_pos rfl]; omega
  have h1 := still_bwd (key _ (Nat.le_refl _))
  have h2 := still_top f c
  omega
end
/-! ### All walks -/
def walksK (g : Mat) (f : Fg) (c : Ct) : Nat → Nat → List (List Int)
  | 0, p => if agC g f c allF f.mi.toNat p then [[(p : Int)]] else []
  | k + 1, p => if agC g f c allF (f.mi.toNat - (k + 1)) p then ((nxt g f.pl.toNat p).map fun q => (walksK g f c k q).map ((p : Int) :: ·)).flatten else []
def walksA (f : Fg) (c : Ct) : List (List Int) := (c.st.map fun p => walksK (farM f) f c f.mi.toNat p.toNat).flatten
theorem flat_len {α β : Type} {h : α → Int} {G : α → List β} : ∀ {l : List α}, (∀ x ∈ l, ((G x).length : Int) = h x) → (((l.map G).flatten).length : Int) = (l.map h).sum
  | [], _ => rfl
  | x :: l, e => by
    simp only [List.map_cons, List.flatten_cons, List.length_append, List.sum_cons, Int.natCast_add]
    rw [e x (by simp), flat_len (fun y hy => e y (by simp [hy]))]
theorem walksK_len (g : Mat) (f : Fg) (c : Ct) : ∀ k p, ((walksK g f c k p).length : Int) = restK g f c allF k p
  | 0, p => by unfold walksK restK; split <;> rfl
  | k + 1, p => by
    unfold walksK restK
    split
    · exact flat_len fun q _ => by rw [List.length_map]; exact walksK_len g f c k q
    · rfl
theorem walksA_len (f : Fg) (c : Ct) : ((walksA f c).length : Int) = countM (farM f) f c allF := by
  unfold walksA countM restM
  exact flat_len fun p _ => walksK_len _ _ _ _ _
theorem drop_last_one {l : List Int} {M : Nat} (h : l.length = M + 1) : l.drop M = [l.getD M 0] := by
  rw [List.drop_eq_getElem_cons (by omega), List.drop_eq_nil_of_le (by omega), List.getD_eq_getElem?_getD, List.getElem?_eq_getElem (by omega)]
  rfl
theorem walksK_mem {f : Fg} {c : Ct} {l : List Int} (h : FogOK f) (hc : c ∈ f.ct) (hl : fitsM (farM f) f c l = true) (hn : l.length = f.mi.toNat + 1) : ∀ k, k ≤ f.mi.toNat → l.drop (f.mi.toNat - k) ∈ walksK (farM f) f c k (wlAt l (f.mi.toNat - k))
  | 0, _ => by
    obtain ⟨h1, h2, h3⟩ := fits_at h hc hl (Nat.le_refl _)
    rw [Nat.sub_zero, drop_last_one hn, h2]
    unfold walksK
    rw [h3]; simp
  | k + 1, hk => by
    obtain ⟨h1, h2, h3⟩ := fits_at h hc hl (m := f.mi.toNat - (k + 1)) (by omega)
    have h4 := walksK_mem h hc hl hn k (by omega)
    have h5 := fits_step h hc hl (m := f.mi.toNat - (k + 1)) (by omega)
    have h6 := (fits_at h hc hl (m := f.mi.toNat - (k + 1) + 1) (by omega)).1
    have e : f.mi.toNat - (k + 1) + 1 = f.mi.toNat - k := by omega
    have e2 : l.drop (f.mi.toNat - (k + 1)) = (wlAt l (f.mi.toNat - (k + 1)) : Int) :: l.drop (f.mi.toNat - k) := by
      rw [List.drop_eq_getElem_cons (by omega), e, ← h2, List.getD_eq_getElem?_getD, List.getElem?_eq_getElem (by omega)]
      rfl
    rw [e] at h5 h6
    rw [e2]
    unfold walksK
    rw [h3]
    simp only [if_true, List.mem_flatten, List.mem_map]
    exact ⟨_, ⟨wlAt l (f.mi.toNat - k), mem_nxt.2 ⟨h6, h5⟩, rfl⟩, List.mem_map_of_mem h4⟩
theorem walksA_mem {f : Fg} {c : Ct} {l : List Int} (h : FogOK f) (hc : c ∈ f.ct) (hl : fitsM (farM f) f c l = true) : l ∈ walksA f c := by
  have hl2 := hl
  unfold fitsM at hl2
  simp only [Bool.and_eq_true, decide_eq_true_eq] at hl2
  have h1 := walksK_mem h hc hl hl2.1.1.1.1 f.mi.toNat (Nat.le_refl _)
  rw [Nat.sub_self, List.drop_zero] at h1
  unfold walksA
  rw [List.mem_flatten]
  exact ⟨_, List.mem_map.2 ⟨l.getD 0 0, mem_memI.1 hl2.1.1.2, rfl⟩, h1⟩
theorem nodup_sub {α : Type} [DecidableEq α] : ∀ {l m : List α}, l.Nodup → (∀ x ∈ l, x ∈ m) → l.length ≤ m.length
  | [], _, _, _ => Nat.zero_le _
  | x :: l, m, hn, hs => by
    have h1 := List.nodup_cons.1 hn
    have hx := hs x (by simp)
    have h2 := nodup_sub (l := l) (m := m.erase x) h1.2 (fun y hy => (List.mem_erase_of_ne (fun e => h1.1 (by rw [← e]; exact hy))).2 (hs y (by simp [hy])))
    have h3 := List.length_erase_of_mem hx
    have h4 := List.length_pos_of_mem hx
    simp only [List.length_cons]
    omega
/-- Walks that fit are one of as many as are counted. -/
theorem met_count {f : Fg} {c : Ct} (h : FogOK f) (hc : c ∈ f.ct) {ms : List (List Int)} (hn : ms.Nodup) (hf : ∀ l ∈ ms, fitsM (farM f) f c l = true) : (ms.length : Int) ≤ countM (farM f) f c allF := by
  have h1 := nodup_sub hn (fun l hl => walksA_mem h hc (hf l hl))
  have h2 := walksA_len f c
  omega
end Go.Proofs.YtpbpcplboikpcaaGreat
