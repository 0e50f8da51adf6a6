/- The plain law of Truth: the minutes that are told are a truth. No program stands here. -/
import Derived.Test.YtgnjhaomlbkgcaaWTruth
import Derived.Test.YtgnjhaomlbkgcaaWPath
namespace Go.Proofs.Ytgnjhaomlbkgcaa
open Go Go.RowKit
set_option linter.unusedVariables false
set_option linter.unusedSimpArgs false

theorem colMin_le (g : Mat) (x : Nat) : ∀ a, colMin g x a ≤ 0 ∧ ∀ i, i < a → colMin g x a ≤ g i x := by
  intro a
  induction a with
  | zero => exact ⟨by simp [colMin], fun i h => by omega⟩
  | succ a ih =>
    obtain ⟨h1, h2⟩ := ih
    rw [colMin_succ]
    refine ⟨by omega, fun i hi => ?_⟩
    by_cases e : i = a
    · subst e; omega
    · have := h2 i (by omega); omega
theorem colMin_is (g : Mat) (x : Nat) : ∀ a, colMin g x a = 0 ∨ ∃ i, i < a ∧ colMin g x a = g i x := by
  intro a
  induction a with
  | zero => left; simp [colMin]
  | succ a ih =>
    rw [colMin_succ]
    by_cases h : colMin g x a ≤ g a x
    · rw [Int.min_eq_left h]
      rcases ih with h1 | ⟨i, hi, h1⟩
      · exact .inl h1
      · exact .inr ⟨i, by omega, h1⟩
    · rw [Int.min_eq_right (by omega)]
      exact .inr ⟨a, by omega, rfl⟩
theorem truthL_get (c : Cs) (k : Nat) (hk : k < c.ev.toNat) : (truthL c)[k]? = some (colMin (gapsM allT c) k c.ev.toNat - colMin (gapsM allT c) 0 c.ev.toNat) := by
  unfold truthL
  rw [List.getElem?_map, List.getElem?_range hk]; rfl
theorem truthL_len (c : Cs) : (truthL c).length = c.ev.toNat := by simp [truthL]
theorem colMin_ge {c : Cs} (h0 : checkC c = 0) {x : Nat} (hx : x < 8) : -416000 ≤ colMin (gapsM allT c) x c.ev.toNat := by
  have hev := checkC_ev h0
  rcases colMin_is (gapsM allT c) x c.ev.toNat with h | ⟨i, hi, h⟩
  · omega
  · have := (gapsM_low (tf := allT) h0 i x (by omega) hx).1
    omega
theorem truth_ok {c : Cs} (h : toldC c = 0) : (truthL c)[0]? = some 0 ∧ (∀ x ∈ truthL c, -416000 ≤ x ∧ x ≤ 416000) ∧ TruthOf c.all (fun k => (truthL c).getD k 0) := by
  have h0 := toldC_check h
  have hev := checkC_ev h0
  have hcl : clashM (gapsM allT c) = false := by
    unfold toldC at h
    rw [if_pos h0] at h
    cases hq : clashM (gapsM allT c) with
    | false => rfl
    | true => rw [hq, if_pos rfl] at h; cases h
  have hf := fine_of h0 hcl
  refine ⟨by rw [truthL_get c 0 (by omega)]; simp, fun x hx => ?_, fun b hb => ?_⟩
  · unfold truthL at hx
    obtain ⟨k, hk, rfl⟩ := List.mem_map.1 hx
    rw [List.mem_range] at hk
    have h1 := colMin_ge h0 (x := k) (by omega)
    have h2 := colMin_ge h0 (x := 0) (by omega)
    have h3 := (colMin_le (gapsM allT c) k c.ev.toNat).1
    have h4 := (colMin_le (gapsM allT c) 0 c.ev.toNat).1
    omega
  · obtain ⟨h1, h2, h3, h4, h5⟩ := checkC_ok h0
    obtain ⟨⟨f0, f1⟩, t0, t1⟩ := evOK_get h3 hb
    have hfl : b.f.toNat < c.ev.toNat := by omega
    have htl : b.t.toNat < c.ev.toNat := by omega
    show (truthL c).getD _ 0 ≤ (truthL c).getD _ 0 + b.m
    rw [List.getD_eq_getElem?_getD, List.getD_eq_getElem?_getD, truthL_get c _ hfl, truthL_get c _ htl]
    simp only [Option.getD_some]
    have hb' : b ∈ belL allT c := by rw [belL_all]; exact hb
    have key : ∃ i, i < c.ev.toNat ∧ gapsM allT c i b.f.toNat ≠ far ∧ gapsM allT c i b.f.toNat = colMin (gapsM allT c) b.f.toNat c.ev.toNat := by
      have k1 := colMin_le (gapsM allT c) b.f.toNat c.ev.toNat
      rcases colMin_is (gapsM allT c) b.f.toNat c.ev.toNat with h | ⟨i, hi, h⟩
      · have k2 := k1.2 b.f.toNat hfl
        have k3 := gap_le h0 hf (a := b.f.toNat) (b := b.f.toNat) (by omega) (by omega) (Row.nil _ _)
        simp only [sumW] at k3
        exact ⟨b.f.toNat, hfl, by unfold far; omega, by omega⟩
      · exact ⟨i, hi, by unfold far; omega, h.symm⟩
    obtain ⟨i, hi, hn, he⟩ := key
    obtain ⟨l, hl, hs⟩ := gap_row h0 (a := i) (b := b.f.toNat) (by omega) (by omega) hn
    have k4 := gap_le h0 hf (a := i) (b := b.t.toNat) (by omega) (by omega) (hl.snoc hb')
    rw [sumW_app] at k4
    simp only [sumW] at k4
    have k5 := (colMin_le (gapsM allT c) b.t.toNat c.ev.toNat).2 i hi
    omega
end Go.Proofs.Ytgnjhaomlbkgcaa
