/- Two cells that are stored into while a region draws its order: all else stays. Rows of eight numbers by their cells. No program stands here. -/
import Derived.Test.YtgnjhaomlbkgcaaBase
namespace Go.Proofs.Ytgnjhaomlbkgcaa
open Go Go.RowKit
set_option linter.unusedVariables false
set_option linter.unusedSimpArgs false

/-- Cells as they were but at p1 and p2, which hold v1 and v2 for good once they hold them. -/
structure St2 (B : Nat) (p1 : Addr) (v1 : Value) (p2 : Addr) (v2 : Value) (w w' : World) : Prop where
  below : Below B w w'
  size : w.heap.size ≤ w'.heap.size
  cell : ∀ (p : Addr) (u : Value), p ≠ p1 → p ≠ p2 → w.cell? p = some u → w'.cell? p = some u
  some1 : (w.cell? p1).isSome = true → (w'.cell? p1).isSome = true
  some2 : (w.cell? p2).isSome = true → (w'.cell? p2).isSome = true
  fz : ∀ p, (w.cell? p).isSome = true → w'.frozen? p = w.frozen? p
  keep1 : w.cell? p1 = some v1 → w'.cell? p1 = some v1
  keep2 : w.cell? p2 = some v2 → w'.cell? p2 = some v2
section
variable {B : Nat} {p1 p2 : Addr} {v1 v2 : Value}
theorem St2.refl (w : World) : St2 B p1 v1 p2 v2 w w := ⟨Below.refl _ _, Nat.le_refl _, fun _ _ _ _ h => h, fun h => h, fun h => h, fun _ _ => rfl, fun h => h, fun h => h⟩
theorem St2.isSome {w w' : World} (h : St2 B p1 v1 p2 v2 w w') {p : Addr} (hp : (w.cell? p).isSome = true) : (w'.cell? p).isSome = true := by
  by_cases e1 : p = p1
  · subst e1; exact h.some1 hp
  · by_cases e2 : p = p2
    · subst e2; exact h.some2 hp
    · obtain ⟨u, hu⟩ := Option.isSome_iff_exists.1 hp
      rw [h.cell p u e1 e2 hu]; rfl
theorem St2.trans {a b c : World} (h : St2 B p1 v1 p2 v2 a b) (k : St2 B p1 v1 p2 v2 b c) : St2 B p1 v1 p2 v2 a c :=
  ⟨h.below.trans k.below, Nat.le_trans h.size k.size, fun p u h1 h2 hu => k.cell p u h1 h2 (h.cell p u h1 h2 hu), fun x => k.some1 (h.some1 x), fun x => k.some2 (h.some2 x),
    fun p hp => (k.fz p (h.isSome hp)).trans (h.fz p hp), fun x => k.keep1 (h.keep1 x), fun x => k.keep2 (h.keep2 x)⟩
theorem frozen_setCell (w : World) (p q : Addr) (u : Value) : (w.setCell p u).frozen? q = w.frozen? q := World.frozen?_setCell ..
theorem setCell_ne (w : World) (p q : Addr) (v : Value) (h : p ≠ q) : (w.setCell p v).cell? q = w.cell? q := World.cell?_setCell_other (w := w) (a := p) (b := q) (v := v) (h := h)
theorem St2.store1 {w : World} (h1 : (w.cell? p1).isSome = true) (hB : B ≤ p1.block) (hne : p1 ≠ p2) : St2 B p1 v1 p2 v2 w (w.setCell p1 v1) where
  below := (Below.refl B w).setCell hB v1
  size := by simp [World.setCell]
  cell p u e1 _ hu := (setCell_ne w p1 p v1 (Ne.symm e1)).trans hu
  some1 _ := by rw [World.cell?_setCell_same' w p1 v1 h1]; rfl
  some2 x := by rw [setCell_ne w p1 p2 v1 hne]; exact x
  fz p _ := frozen_setCell _ _ _ _
  keep1 _ := World.cell?_setCell_same' w p1 v1 h1
  keep2 x := (setCell_ne w p1 p2 v1 hne).trans x
theorem St2.store2 {w : World} (h2 : (w.cell? p2).isSome = true) (hB : B ≤ p2.block) (hne : p1 ≠ p2) : St2 B p1 v1 p2 v2 w (w.setCell p2 v2) where
  below := (Below.refl B w).setCell hB v2
  size := by simp [World.setCell]
  cell p u _ e2 hu := (setCell_ne w p2 p v2 (Ne.symm e2)).trans hu
  some1 x := by rw [setCell_ne w p2 p1 v2 (Ne.symm hne)]; exact x
  some2 _ := by rw [World.cell?_setCell_same' w p2 v2 h2]; rfl
  fz p _ := frozen_setCell _ _ _ _
  keep1 x := (setCell_ne w p2 p1 v2 (Ne.symm hne)).trans x
  keep2 _ := World.cell?_setCell_same' w p2 v2 h2
end

/-- Block S holds eight numbers. -/
def Row8 (w : World) (S : Nat) (f : Nat → Int) : Prop := ∀ j, j < 8 → w.cell? ⟨S, j, none⟩ = some (.int .i64 (f j)) ∧ w.frozen? ⟨S, j, none⟩ = false
def upd1 {α : Type} (f : Nat → α) (k : Nat) (x : α) : Nat → α := fun j => if j = k then x else f j
theorem Row8.congr {w w' : World} {S : Nat} {f : Nat → Int} (h : Row8 w S f) (hc : ∀ j, w'.cell? ⟨S, j, none⟩ = w.cell? ⟨S, j, none⟩) (hf : ∀ j, w'.frozen? ⟨S, j, none⟩ = w.frozen? ⟨S, j, none⟩) : Row8 w' S f :=
  fun j hj => ⟨(hc j).trans (h j hj).1, (hf j).trans (h j hj).2⟩
theorem Row8.ext {w w' : World} {S : Nat} {f : Nat → Int} (h : Row8 w S f) (hx : Ext w w') : Row8 w' S f := fun j hj => by
  have hlt := World.block_lt_of_cell? w _ (h j hj).1
  have hb := Below.block hx S hlt
  exact ⟨hx.cell (h j hj).1, (by rw [World.frozen?, hb]; exact (h j hj).2)⟩
end Go.Proofs.Ytgnjhaomlbkgcaa
