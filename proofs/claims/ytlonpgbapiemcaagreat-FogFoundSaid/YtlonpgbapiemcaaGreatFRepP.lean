/- The plain side of FogReports: a cart without reports can stay, so the fewest reports that are not agreed are the best of all sets. No program stands here. -/
import Derived.Test.YtlonpgbapiemcaaGreatG1
namespace Go.Proofs.YtlonpgbapiemcaaGreat
open Go Go.RowKit
set_option linter.unusedVariables false
set_option linter.unusedSimpArgs false

theorem agL_none {g : Mat} {f : Fg} {m p : Nat} : ∀ {l : List Rp} {i : Nat}, agL g f (fun i => memI i []) m p i l = true
  | [], _ => rfl
  | r :: l, i => by
    unfold agL badR
    rw [agL_none (l := l) (i := i + 1)]
    simp [memI]
theorem agC_none {g : Mat} {f : Fg} {c : Ct} {m p : Nat} : agC g f c (fun i => memI i []) m p = true := agL_none
theorem restK_none {f : Fg} (h : FogOK f) {c : Ct} : ∀ (k : Nat) {p : Nat}, p < f.pl.toNat → 0 < restK (farM f) f c (fun i => memI i []) k p
  | 0, p, _ => by unfold restK; rw [agC_none]; simp
  | k + 1, p, hp => by
    have hpl := h.pl
    unfold restK
    rw [agC_none, if_pos rfl, nxt, sum_filter]
    refine (sumN_pos fun q hq => ?_).2 ⟨p, hp, ?_⟩
    · split
      · exact (restK_le h.pl.2 k q).1
      · exact Int.le_refl _
    · have hs := (far_ok h).dst.self p (by omega)
      rw [if_pos (by rw [hs]; decide)]
      exact restK_none h k hp
theorem count_none {f : Fg} (h : FogOK f) {c : Ct} (hc : c ∈ f.ct) : 0 < countM (farM f) f c (fun i => memI i []) := by
  have hne := h.ne c hc
  obtain ⟨x, hx⟩ : ∃ x, x ∈ c.st := by
    cases hst : c.st with
    | nil => rw [hst] at hne; simp at hne
    | cons x l => exact ⟨x, by simp⟩
  have hb := h.st c hc x hx
  unfold countM
  rw [st_sum h hc (fun p => restM (farM f) f c (fun i => memI i []) 0 p)]
  refine (sumN_pos fun p hp => ?_).2 ⟨x.toNat, by omega, ?_⟩
  · split
    · exact (restM_le h 0 p).1
    · exact Int.le_refl _
  · rw [if_pos (by rw [mem_memI, Int.toNat_of_nonneg hb.1]; exact hx)]
    unfold restM
    exact restK_none h _ (by omega)
theorem agreed_none {f : Fg} (h : FogOK f) {c : Ct} (hc : c ∈ f.ct) : agreedM (farM f) f c [] = true := by
  unfold agreedM
  simpa using count_none h hc
theorem clash_few {f : Fg} (h : FogOK f) {c : Ct} (hc : c ∈ f.ct) : clashF (farM f) f c = fewL (fun s => !agreedM (farM f) f c s) c.rp.length := by
  unfold clashF fewL
  conv => rhs; unfold tryL
  have e : moreL (fun s => !agreedM (farM f) f c s) c.rp.length 0 [] 0 = none := by
    unfold moreL
    rw [agreed_none h hc]
    rfl
  rw [e]
/-- The best of the sets ahead of the first one is none. -/
theorem best_one {f : Fg} (h : FogOK f) {c : Ct} (hc : c ∈ f.ct) : bestTo (fun s => !agreedM (farM f) f c s) c.rp.length 1 = none := by
  refine best_no (n := 0) rfl ?_
  have e : someW (bit 0) c.rp.length = [] := by
    have : ∀ n, someW (bit 0) n = [] := fun n => by
      induction n with
      | zero => rfl
      | succ n ih => rw [someW_snoc, ih, show bit 0 n = false by simp [bit]]; rfl
    exact this _
  rw [e, agreed_none h hc]
  rfl
theorem count_nn {f : Fg} (h : FogOK f) {c : Ct} (hc : c ∈ f.ct) (sel : Int → Bool) : 0 ≤ countM (farM f) f c sel := by
  rw [count_come h hc sel]
  exact sumN_nonneg fun _ _ => come_nonneg _ _
theorem count_p {f : Fg} (h : FogOK f) {c : Ct} (hc : c ∈ f.ct) (n : Nat) : (!agreedM (farM f) f c (someW (bit n) c.rp.length)) = decide (countM (farM f) f c (selS n) = 0) := by
  have e : countM (farM f) f c (selS n) = countM (farM f) f c (fun i => memI i (someW (bit n) c.rp.length)) := countM_congr (members_sel c n)
  have h0 := count_nn h hc (selS n)
  unfold agreedM
  rw [← e, Bool.eq_iff_iff]
  simp
  omega
end Go.Proofs.YtlonpgbapiemcaaGreat
