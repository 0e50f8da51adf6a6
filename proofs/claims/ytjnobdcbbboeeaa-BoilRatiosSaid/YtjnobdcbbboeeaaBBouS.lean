/- Stores into a row of weighings, and into a block of one. -/
import Derived.Test.YtjnobdcbbboeeaaBOwnL
import Derived.Test.YtjnobdcbbboeeaaBBouQ
import Derived.Test.YtjnobdcbbboeeaaBSho
import Derived.Test.YtjnobdcbbboeeaaBHeap
namespace Go.Proofs.Ytjnobdcbbboeeaa
open Go Go.RowKit Go.Shelf
set_option linter.unusedVariables false
set_option linter.unusedSimpArgs false

theorem own_neT {w : World} {base e size n : Nat} {v : Value} {xs : List Value} {X : Nat} {cs : Array Value} {t : TypeId} {m : Nat × Nat} (h : w.ownsRow base e size v n xs) (hX : w.heap[X]? = some (.cells cs t m)) (hne : t ≠ e) : v.ownBlock ≠ some X := by
  intro hq
  rcases h.2 with ⟨rfl, _⟩ | ⟨g, cap, cur, rfl, _, hg, _⟩
  · cases hq
  · cases hq
    rw [hX] at hg
    cases hg
    exact hne rfl
theorem own_some5 {w : World} {base e size n c : Nat} {A : Option Addr} {xs : List Value} (h : w.ownsRow base e size (.slice A (n + 1) c) (n + 1) xs) : ∃ g, A = some ⟨g, 0, none⟩ := by
  rcases h.2 with ⟨h1, _⟩ | ⟨g, cap, cur, h1, _⟩
  · injection h1 with _ h2 _; omega
  · injection h1 with h2 _ _; exact ⟨g, h2⟩
theorem row5 {w : World} {base g cap n k : Nat} {T : TypeId} {ws : List Wg} {x : Wg} (ho : w.ownsRow base T 5 (.slice (some ⟨g, 0, none⟩) n cap) n (layWg.rows ws)) (hx : ws[k]? = some x) : (∀ i u, (layWg.cells x)[i]? = some u → w.cell? ⟨g, k * 5 + i, none⟩ = some u) ∧ ∀ i, w.frozen? ⟨g, i, none⟩ = false := by
  refine ⟨fun i u hu => ?_, fun i => ?_⟩
  · have hc := ho.cells (g := g) rfl (k * 5 + i) u (layWg.rows_get _ k x hx i u hu)
    rwa [Addr.add_lit, Nat.zero_add] at hc
  · rcases ho.2 with ⟨h1, -⟩ | ⟨g2, c2, cur, e1, -, h2, -⟩
    · cases h1
    · cases e1; simp [World.frozen?, h2]
theorem rows_last (ws : List Wg) (x y : Wg) (k : Nat) (hk : ws.length = k) : (((((layWg.rows (ws ++ [x])).set (k * 5) (.int .i64 y.mo)).set (k * 5 + 1) (.int .i64 y.sl)).set (k * 5 + 2) (.int .i64 y.sh)).set (k * 5 + 3) (.int .i64 y.ml)).set (k * 5 + 4) (.int .i64 y.mh) = layWg.rows (ws ++ [y]) := by
  have hl : (layWg.rows ws).length = k * 5 := by rw [layWg.rows_len, hk]; rfl
  rw [layWg.rows_app, layWg.rows_single, layWg.rows_app, layWg.rows_single]
  rw [List.set_append_right _ _ (by omega), List.set_append_right _ _ (by omega), List.set_append_right _ _ (by omega), List.set_append_right _ _ (by omega), List.set_append_right _ _ (by omega), hl]
  rw [show k * 5 - k * 5 = 0 by omega, show k * 5 + 1 - k * 5 = 1 by omega, show k * 5 + 2 - k * 5 = 2 by omega, show k * 5 + 3 - k * 5 = 3 by omega, show k * 5 + 4 - k * 5 = 4 by omega]
  rfl
def put5W (w : World) (g o : Nat) (y : Wg) : World := ((((w.setCell ⟨g, o, none⟩ (.int .i64 y.mo)).setCell ⟨g, o + 1, none⟩ (.int .i64 y.sl)).setCell ⟨g, o + 2, none⟩ (.int .i64 y.sh)).setCell ⟨g, o + 3, none⟩ (.int .i64 y.ml)).setCell ⟨g, o + 4, none⟩ (.int .i64 y.mh)
theorem put5_bel (w : World) (g o : Nat) (y : Wg) : Bel g w (put5W w g o y) := (((((Bel.refl g w).setCell _ _).setCell _ _).setCell _ _).setCell _ _).setCell _ _
theorem put5_own {w : World} {base g cap k : Nat} {T : TypeId} {ws : List Wg} {x : Wg} (y : Wg) (ho : w.ownsRow base T 5 (.slice (some ⟨g, 0, none⟩) (k + 1) cap) (k + 1) (layWg.rows (ws ++ [x]))) (hk : ws.length = k) : (put5W w g (k * 5) y).ownsRow base T 5 (.slice (some ⟨g, 0, none⟩) (k + 1) cap) (k + 1) (layWg.rows (ws ++ [y])) := by
  have h5 := ((((ho.stored (k * 5) (.int .i64 y.mo)).1.stored (k * 5 + 1) (.int .i64 y.sl)).1.stored (k * 5 + 2) (.int .i64 y.sh)).1.stored (k * 5 + 3) (.int .i64 y.ml)).1.stored (k * 5 + 4) (.int .i64 y.mh)
  rw [rows_last ws x y k hk] at h5
  exact h5.1
theorem put5_blk {w : World} {B : Nat} {a0 a1 a2 a3 a4 : Value} {T : TypeId} (y : Wg) (h : w.heap[B]? = some (.cells #[a0, a1, a2, a3, a4] T (0, 0))) : (put5W w B 0 y).heap[B]? = some (.cells #[.int .i64 y.mo, .int .i64 y.sl, .int .i64 y.sh, .int .i64 y.ml, .int .i64 y.mh] T (0, 0)) :=
  heap_setW (heap_setW (heap_setW (heap_setW (heap_setW h _) _) _) _) _
theorem blk5_cells {w : World} {B : Nat} {a0 a1 a2 a3 a4 : Value} {T : TypeId} (h : w.heap[B]? = some (.cells #[a0, a1, a2, a3, a4] T (0, 0))) : (w.cell? ⟨B, 0, none⟩ = some a0 ∧ w.cell? ⟨B, 1, none⟩ = some a1 ∧ w.cell? ⟨B, 2, none⟩ = some a2 ∧ w.cell? ⟨B, 3, none⟩ = some a3 ∧ w.cell? ⟨B, 4, none⟩ = some a4) ∧ ∀ i, w.frozen? ⟨B, i, none⟩ = false :=
  ⟨⟨by rw [cell_of_row w B 0 _ _ _ h]; rfl, by rw [cell_of_row w B 1 _ _ _ h]; rfl, by rw [cell_of_row w B 2 _ _ _ h]; rfl, by rw [cell_of_row w B 3 _ _ _ h]; rfl, by rw [cell_of_row w B 4 _ _ _ h]; rfl⟩, fun i => by simp [World.frozen?, h]⟩
theorem hsr_add {w : World} {base : Nat} {T : TypeId} {h : Hs} {x : Wg} {k c : Nat} {A : Option Addr} (hk : h.ws.length = k) (ho : w.ownsRow base T 5 (.slice A (k + 1) c) (k + 1) (layWg.rows (h.ws ++ [x]))) : HsR w (.agg #[.int .i64 h.mo, .int .i64 h.pk, .slice A (k + 1) c]) (addH h x) :=
  ⟨A, c, by unfold hval addH; simp [hk], Rd.of_own ho, by have := own_cap2 ho; unfold addH; simp [hk]; omega⟩
end Go.Proofs.Ytjnobdcbbboeeaa
