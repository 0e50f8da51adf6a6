/- Rows of truth values in a block (as XFBool, with boil's imports). -/
import Derived.Test.YtjnobdcbbboeeaaBRfP
import Derived.Deep.OwnRows
import Derived.Test.YtjnobdcbbboeeaaH6
import Derived.Test.YtjnobdcbbboeeaaH5
namespace Go.Proofs.Ytjnobdcbbboeeaa
open Go Go.RowKit Go.Shelf
set_option linter.unusedVariables false
set_option linter.unusedSimpArgs false

def upd1 {α : Type} (f : Nat → α) (k : Nat) (x : α) : Nat → α := fun i => if i = k then x else f i
/-! ### Rows of so many values of a function -/
def rl {α : Type} (n : Nat) (f : Nat → α) : List α := (List.range n).map f
theorem rl_len {α : Type} (n : Nat) (f : Nat → α) : (rl n f).length = n := by simp [rl]
theorem rl_get {α : Type} {n : Nat} (f : Nat → α) {k : Nat} (h : k < n) : (rl n f)[k]? = some (f k) := by simp [rl, h]
theorem rl_upd {α : Type} (n : Nat) (f : Nat → α) (k : Nat) (x : α) : rl n (upd1 f k x) = (rl n f).set k x := by
  apply List.ext_getElem?
  intro i
  rw [List.getElem?_set]
  rcases Nat.lt_or_ge i n with hi | hi
  · rw [rl_get _ hi, rl_get _ hi, rl_len]
    unfold upd1
    by_cases hk : i = k
    · subst hk; simp [hi]
    · rw [if_neg hk, if_neg (fun h => hk h.symm)]
  · have h1 : (rl n (upd1 f k x))[i]? = none := List.getElem?_eq_none (by rw [rl_len]; exact hi)
    have h2 : (rl n f)[i]? = none := List.getElem?_eq_none (by rw [rl_len]; exact hi)
    rw [h1, h2, rl_len]
    by_cases hk : k = i
    · rw [if_pos hk, if_neg (by omega)]
    · rw [if_neg hk]
theorem rl_const {α : Type} (n : Nat) (x : α) : rl n (fun _ => x) = List.replicate n x := by
  apply List.ext_getElem?
  intro i
  simp only [rl, List.getElem?_map, List.getElem?_replicate]
  by_cases hi : i < n
  · simp [hi]
  · rw [List.getElem?_eq_none (by simpa using hi)]; simp [hi]
/-! Rows of truth values -/
def Bools (w : World) (A : Option Addr) (l : List Bool) : Prop := Rd w A (l.map Value.bool)
theorem Bools.ext {w w' : World} {A : Option Addr} {l : List Bool} (h : Bools w A l) (hx : Ext w w') : Bools w' A l := Rd.ext h hx
theorem Bools.at_ {w : World} {A : Option Addr} {l : List Bool} {k : Nat} {x : Bool} (h : Bools w A l) (hk : l[k]? = some x) :
    ∃ b off, A = some ⟨b, off, none⟩ ∧ w.cell? ⟨b, off + k, none⟩ = some (.bool x) := by
  obtain ⟨b, off, hA, hc⟩ := Rd.at_ h (by intro e; have := congrArg List.length e; simp at this; subst this; simp at hk)
  exact ⟨b, off, hA, hc k _ (by simp [hk])⟩
def Brow (w : World) (B : Nat) (l : List Bool) : Prop := w.heap[B]? = some (.cells (l.map Value.bool).toArray 4 (0, 0))
theorem Brow.lt {w : World} {B : Nat} {l : List Bool} (h : Brow w B l) : B < w.heap.size := (Array.getElem?_eq_some_iff.1 h).1
theorem Brow.ext {w w' : World} {B : Nat} {l : List Bool} (h : Brow w B l) (hx : Ext w w') : Brow w' B l := (Below.block hx B h.lt).trans h
theorem Brow.at_ {w : World} {B : Nat} {l : List Bool} (h : Brow w B l) {k : Nat} {x : Bool} (hk : l[k]? = some x) : w.cell? ⟨B, k, none⟩ = some (.bool x) := by
  rw [cell_of_row w B k _ _ _ h]; simp [hk]
theorem Brow.frozen {w : World} {B : Nat} {l : List Bool} (h : Brow w B l) (k : Nat) : w.frozen? ⟨B, k, none⟩ = false := by
  unfold Brow at h
  simp [World.frozen?, h]
theorem Brow.set {w : World} {B : Nat} {l : List Bool} (h : Brow w B l) (k : Nat) (x : Bool) : Brow (w.setCell ⟨B, k, none⟩ (.bool x)) B (l.set k x) := by
  unfold Brow at h ⊢
  simp only [World.setCell, Array.getElem?_modify, h, if_true, Option.map_some]
  simp only [List.setIfInBounds_toArray, List.map_set, Option.isSome_none, Bool.false_eq_true, if_false]
theorem Brow.bools {w : World} {B : Nat} {l : List Bool} (h : Brow w B l) : Bools w (some ⟨B, 0, none⟩) l :=
  .inr ⟨B, 0, rfl, fun j u hu => by
    rw [Nat.zero_add]
    obtain ⟨x, hx, rfl⟩ : ∃ x, l[j]? = some x ∧ Value.bool x = u := by simpa using hu
    exact h.at_ hx⟩
theorem Brow.setne {w : World} {B : Nat} {l : List Bool} (h : Brow w B l) (p : Addr) (u : Value) (hp : B ≠ p.block) : Brow (w.setCell p u) B l := (heap_setCell_ne _ _ _ _ hp).trans h

theorem infoBool : (Try.prog.info? 4).map (fun i => (i.zero, i.size, i.bytes)) = some (some (.bool false), 1, 1) := by kernel_rfl
theorem made_brow (n : Nat) : madeCells #[.bool false] n = ((List.replicate n false).map Value.bool).toArray := by
  apply Array.ext
  · simp [madeCells]
  · intro i h1 h2
    simp [madeCells, Nat.mod_one]
def icells (l : List Int) : List Value := l.map (Value.int .i64)
theorem icells_app (l m : List Int) : icells (l ++ m) = icells l ++ icells m := by simp [icells]
theorem icells_one (l : List Int) : ∀ u ∈ icells l, u.oneCell' = true := ints_one l
theorem rblk_cells {w : World} {B : Nat} {xs : List Value} {T : TypeId} (h : w.heap[B]? = some (.cells xs.toArray T (0, 0))) (j : Nat) (u : Value) (hu : xs[j]? = some u) : w.cell? ⟨B, j, none⟩ = some u := by
  rw [cell_of_row w B j _ _ _ h]
  simpa using hu
theorem rhouse_cells {w : World} {B : Nat} {v0 v1 v2 : Value} {T : TypeId} (h : w.heap[B]? = some (.cells #[v0, v1, v2] T (0, 0))) : w.cell? ⟨B, 0, none⟩ = some v0 ∧ w.cell? ⟨B, 1, none⟩ = some v1 ∧ w.cell? ⟨B, 2, none⟩ = some v2 ∧ ∀ i, w.frozen? ⟨B, i, none⟩ = false :=
  ⟨by rw [cell_of_row w B 0 _ _ _ h]; rfl, by rw [cell_of_row w B 1 _ _ _ h]; rfl, by rw [cell_of_row w B 2 _ _ _ h]; rfl, fun i => by simp [World.frozen?, h]⟩
end Go.Proofs.Ytjnobdcbbboeeaa
