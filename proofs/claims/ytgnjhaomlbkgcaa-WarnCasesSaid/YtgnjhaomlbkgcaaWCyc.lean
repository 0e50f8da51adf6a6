/- A map on eight numbers comes back. No program stands here. -/
import Derived.Test.YtgnjhaomlbkgcaaBase
namespace Go.Proofs.Ytgnjhaomlbkgcaa
open Go Go.RowKit
set_option linter.unusedVariables false
set_option linter.unusedSimpArgs false

def iterN (f : Nat → Nat) : Nat → Nat → Nat
  | 0, x => x
  | k + 1, x => iterN f k (f x)
theorem iterN_add (f : Nat → Nat) : ∀ (a b x : Nat), iterN f (a + b) x = iterN f b (iterN f a x) := by
  intro a
  induction a with
  | zero => intro b x; simp [iterN]
  | succ a ih => intro b x; rw [show a + 1 + b = (a + b) + 1 by omega]; exact ih b (f x)
theorem iterN_lt {f : Nat → Nat} {m : Nat} (hf : ∀ x, x < m → f x < m) : ∀ (k : Nat) {x : Nat}, x < m → iterN f k x < m := by
  intro k
  induction k with
  | zero => exact fun h => h
  | succ k ih => exact fun h => ih (hf _ h)
/-- Nine of eight: two are alike. -/
theorem pigeon (g : Nat → Nat) : ∀ (m : Nat), (∀ i, i ≤ m → g i < m) → ∃ i j, i < j ∧ j ≤ m ∧ g i = g j := by
  intro m
  induction m generalizing g with
  | zero => intro h; have := h 0 (Nat.le_refl _); omega
  | succ m ih =>
    intro h
    by_cases hx : ∃ i, i ≤ m ∧ g i = g (m + 1)
    · obtain ⟨i, hi, he⟩ := hx
      exact ⟨i, m + 1, by omega, Nat.le_refl _, he⟩
    · -- the value of the last one is struck out
      let v := g (m + 1)
      let g' : Nat → Nat := fun i => if g i = m then v else g i
      have hg' : ∀ i, i ≤ m → g' i < m := by
        intro i hi
        have h1 := h i (by omega)
        have h2 := h (m + 1) (Nat.le_refl _)
        have h3 : g i ≠ g (m + 1) := fun e => hx ⟨i, hi, e⟩
        show (if g i = m then g (m + 1) else g i) < m
        split <;> omega
      obtain ⟨i, j, hij, hj, he⟩ := ih g' hg'
      refine ⟨i, j, hij, by omega, ?_⟩
      have h3 : g i ≠ g (m + 1) := fun e => hx ⟨i, by omega, e⟩
      have h4 : g j ≠ g (m + 1) := fun e => hx ⟨j, by omega, e⟩
      have he' : (if g i = m then g (m + 1) else g i) = (if g j = m then g (m + 1) else g j) := he
      split at he' <;> split at he' <;> omega
theorem cycle8 {f : Nat → Nat} (hf : ∀ x, x < 8 → f x < 8) {x : Nat} (hx : x < 8) : ∃ k, 1 ≤ k ∧ k ≤ 8 ∧ iterN f k (iterN f 8 x) = iterN f 8 x := by
  obtain ⟨i, j, hij, hj, he⟩ := pigeon (fun i => iterN f i x) 8 (fun i _ => iterN_lt hf i hx)
  refine ⟨j - i, by omega, by omega, ?_⟩
  have h1 : iterN f 8 x = iterN f (8 - i) (iterN f i x) := by rw [← iterN_add]; congr 1; omega
  rw [← iterN_add, show 8 + (j - i) = j + (8 - i) by omega, iterN_add, ← he, ← h1]
end Go.Proofs.Ytgnjhaomlbkgcaa
