/- The walk of slices.Reverse over numbers. -/
import Derived.Test.YtgnjhaomlbkgcaaWDesk
import Derived.Test.YtgnjhaomlbkgcaaProg
import Derived.Test.YtgnjhaomlbkgcaaSt2
namespace Go.Proofs.Ytgnjhaomlbkgcaa
open Go Go.RowKit Go.Shelf
set_option linter.unusedVariables false
set_option linter.unusedSimpArgs false

/-- Block g holds n numbers from its beginning on. -/
def RowN (w : World) (g n : Nat) (f : Nat → Int) : Prop := ∀ j, j < n → w.cell? ⟨g, j, none⟩ = some (.int .i64 (f j)) ∧ w.frozen? ⟨g, j, none⟩ = false
theorem RowN.congr {w : World} {g n : Nat} {f f' : Nat → Int} (h : RowN w g n f) (he : ∀ j, j < n → f j = f' j) : RowN w g n f' := fun j hj => by rw [← he j hj]; exact h j hj
theorem RowN.set {w : World} {g n : Nat} {f : Nat → Int} (h : RowN w g n f) {k : Nat} (hk : k < n) (x : Int) : RowN (w.setCell ⟨g, k, none⟩ (.int .i64 x)) g n (upd1 f k x) := fun j hj => by
  refine ⟨?_, by rw [frozen_setCell]; exact (h j hj).2⟩
  unfold upd1
  by_cases hjk : j = k
  · subst hjk
    rw [if_pos rfl]
    exact World.cell?_setCell_same' _ _ _ (by rw [(h j hj).1]; rfl)
  · rw [if_neg hjk, setCell_ne _ _ _ _ (fun e => hjk (by cases e; rfl))]
    exact (h j hj).1
theorem RowN.ext {w w' : World} {g n : Nat} {f : Nat → Int} (h : RowN w g n f) (hx : Ext w w') : RowN w' g n f := fun j hj => by
  have hlt := World.block_lt_of_cell? w _ (h j hj).1
  have hb := Below.block hx g hlt
  exact ⟨hx.cell (h j hj).1, by have := (h j hj).2; unfold World.frozen? at *; rw [hb]; exact this⟩
def revTo (f : Nat → Int) (n k : Nat) : Nat → Int := fun j => if j < k ∨ n ≤ j + k then f (n - 1 - j) else f j

set_option maxRecDepth 100000 in
set_option maxHeartbeats 2000000 in
theorem reverse_any (g n cap : Nat) (f : Nat → Int) (w : World) (h : RowN w g n f) (hn : n ≤ 4611686018427387904) :
    Calls Try.prog 89 #[.slice (some ⟨g, 0, none⟩) n cap] w fun e w' => (∃ v, e = .returned v) ∧ Bel g w w' ∧ RowN w' g n (fun j => f (n - 1 - j)) := by
  have h0 : RowN w g n (revTo f n 0) := h.congr fun j hj => by unfold revTo; rw [if_neg (by omega)]
  go_enter Try.func89, Try.ntmps89
  go_wp2
  go_loopw [2, 3] (fun i j wr => ∃ k : Nat, i = .int .i64 (k : Int) ∧ j = .int .i64 ((n : Int) - 1 - k) ∧ 2 * k ≤ n + 1 ∧ RowN wr g n (revTo f n k) ∧ Bel g w wr) (fun i _ _ => n - (intOf i).toNat)
  case atStart => exact ⟨0, rfl, by simp, by omega, h0, Bel.refl _ _⟩
  case round =>
    obtain ⟨k, rfl, rfl, hk, hr, hb⟩ := hrel
    by_cases hlt : 2 * k + 1 < n
    · have hlt' : (k : Int) < (n : Int) - 1 - k := by omega
      obtain ⟨m, hm⟩ : ∃ m : Nat, (n : Int) - 1 - k = m := ⟨n - 1 - k, by omega⟩
      have hmn : (m : Int) < (n : Int) := by omega
      have hkn : (k : Int) < (n : Int) := by omega
      have hmk : m ≠ k := by omega
      obtain ⟨a1, a2⟩ := hr k (by omega)
      obtain ⟨b1, b2⟩ := hr m (by omega)
      have hfk : revTo f n k k = f k := by unfold revTo; rw [if_neg (by omega)]
      have hfm : revTo f n k m = f m := by unfold revTo; rw [if_neg (by omega)]
      rw [hfk] at a1
      rw [hfm] at b1
      have hne : ((n : Int) - 1 - k) = m := hm
      rw [hm] at hlt' ⊢
      go_wp2
      go_region
      have hr2 := (hr.set (show k < n by omega) (f m)).set (show m < n by omega) (f k)
      have hb2 : Bel g w (((wr.setCell ⟨g, k, none⟩ (.int .i64 (f m))).setCell ⟨g, m, none⟩ (.int .i64 (f k))).drew) := (hb.setCell _ _).setCell _ _ |>.trans (Ext.bel (Ext.drew (Ext.refl _)))
      have hr3 : RowN (((wr.setCell ⟨g, k, none⟩ (.int .i64 (f m))).setCell ⟨g, m, none⟩ (.int .i64 (f k))).drew) g n (revTo f n (k + 1)) := by
        refine RowN.congr (f := upd1 (upd1 (revTo f n k) k (f m)) m (f k)) hr2 fun j hj => ?_
        unfold upd1 revTo
        by_cases h1 : j = m
        · rw [if_pos h1, if_pos (by omega)]; congr 1; omega
        · rw [if_neg h1]
          by_cases h2 : j = k
          · rw [if_pos h2, if_pos (by omega)]; congr 1; omega
          · rw [if_neg h2]
            by_cases h3 : j < k ∨ n ≤ j + k
            · rw [if_pos h3, if_pos (by omega)]
            · rw [if_neg h3, if_neg (by omega)]
      go_wp2
      go_roundw
      case rel => exact ⟨k + 1, by go_num, by go_num, by omega, hr3, hb2⟩
      case measure => simp [intOf]; omega
    · have hlt' : ¬ (k : Int) < (n : Int) - 1 - k := by omega
      go_wp2
      go_end0
      refine ⟨⟨_, rfl⟩, hb, hr.congr fun j hj => ?_⟩
      unfold revTo
      by_cases h1 : j < k ∨ n ≤ j + k
      · rw [if_pos h1]
      · rw [if_neg h1]; congr 1; omega
end Go.Proofs.Ytgnjhaomlbkgcaa
