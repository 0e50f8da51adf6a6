/- Rows of the call's own, of numbers and of rows of numbers: what the laws and the reference both need. No program stands here. -/
import Derived.Test.YtlonpgbapiemcaaGreatG4
namespace Go.Proofs.YtlonpgbapiemcaaGreat
open Go Go.RowKit
set_option linter.unusedVariables false
set_option linter.unusedSimpArgs false

theorem take_next {α : Type} {l : List α} {k : Nat} {x : α} (h : l[k]? = some x) : l.take (k + 1) = l.take k ++ [x] := by
  have hk : k < l.length := (List.getElem?_eq_some_iff.1 h).1
  rw [List.take_succ_eq_append_getElem hk, (List.getElem?_eq_some_iff.1 h).2]
theorem elem_ints : ElemOK Tryz.prog 66 37 1 24 := by
  refine ⟨Tryz.underlying66, ?_, by decide, by decide⟩
  have h : ((Tryz.prog.info? 37).bind fun i => i.zero.map fun z => (i.size, i.bytes, z.cells.size)) = some (1, 24, 1) := by kernel_rfl
  cases hi : Tryz.prog.info? 37 with
  | none => rw [hi] at h; cases h
  | some i =>
    rw [hi] at h
    cases hz : i.zero with
    | none => simp [hz] at h
    | some z => simp [hz] at h; exact ⟨i, z, rfl, hz, h.1, h.2.1, h.2.2⟩
theorem blk_free {w : World} {B i : Nat} {cs : Array Value} {T : TypeId} (h : w.heap[B]? = some (.cells cs T (0, 0))) : w.frozen? ⟨B, i, none⟩ = false := by simp [World.frozen?, h]
theorem blk_set {w : World} {D i : Nat} {cs : Array Value} {T : TypeId} (h : w.heap[D]? = some (.cells cs T (0, 0))) (v : Value) : (w.setCell ⟨D, i, none⟩ v).heap[D]? = some (.cells (cs.setIfInBounds i v) T (0, 0)) := by
  simp [World.setCell, Array.getElem?_modify, h]
theorem own_blk {w : World} {base e size n g : Nat} {v : Value} {xs : List Value} (h : w.ownsRow base e size v n xs) (hg : v.ownBlock = some g) : ∃ cur, w.heap[g]? = some (.cells cur e (0, 0)) := by
  rcases h.2 with ⟨rfl, _⟩ | ⟨g2, cap, cur, rfl, _, h2, _⟩
  · cases hg
  · cases hg; exact ⟨cur, h2⟩
/-- Rows of numbers, each of the call's own. -/
structure OwnRows (w : World) (B : Nat) (xs : List Value) (ls : List (List Int)) : Prop where
  len : xs.length = ls.length
  row : ∀ (i : Nat) (l : List Int), ls[i]? = some l → ∃ A k, xs[i]? = some (.slice A l.length k) ∧ w.ownsRow B 3 1 (.slice A l.length k) l.length (l.map (.int .i64))
theorem OwnRows.ext {w w' : World} {B : Nat} {xs : List Value} {ls : List (List Int)} (h : OwnRows w B xs ls) (hx : Ext w w') : OwnRows w' B xs ls :=
  ⟨h.len, fun i l hi => by obtain ⟨A, k, e, ho⟩ := h.row i l hi; exact ⟨A, k, e, own_below ho hx⟩⟩
theorem OwnRows.keep {S : Nat → Prop} {w w' : World} {B : Nat} {xs : List Value} {ls : List (List Int)} (h : OwnRows w B xs ls) (hb : BelS S w w') (hS : ∀ g, S g → ∃ cs T, w.heap[g]? = some (.cells cs T (0, 0)) ∧ T ≠ 3) : OwnRows w' B xs ls :=
  ⟨h.len, fun i l hi => by
    obtain ⟨A, k, e, ho⟩ := h.row i l hi
    exact ⟨A, k, e, hb.own ho (fun g hg hs => by obtain ⟨cs, T, hh, hne⟩ := hS g hs; exact own_ne ho hh hne hg)⟩⟩
theorem OwnRows.nil (w : World) (B : Nat) : OwnRows w B [] [] := ⟨rfl, fun i l h => by simp at h⟩
theorem OwnRows.snoc {w : World} {B : Nat} {xs : List Value} {ls : List (List Int)} (h : OwnRows w B xs ls) {l : List Int} {A : Option Addr} {k : Nat} (ho : w.ownsRow B 3 1 (.slice A l.length k) l.length (l.map (.int .i64))) : OwnRows w B (xs ++ [.slice A l.length k]) (ls ++ [l]) := by
  refine ⟨by simp [h.len], fun i m hi => ?_⟩
  by_cases hlt : i < ls.length
  · rw [List.getElem?_append_left hlt] at hi
    rw [List.getElem?_append_left (by rw [h.len]; exact hlt)]
    exact h.row i m hi
  · rw [List.getElem?_append_right (by omega)] at hi
    have hi0 : i - ls.length = 0 := by
      rcases Nat.eq_zero_or_pos (i - ls.length) with e | e
      · exact e
      · rw [List.getElem?_eq_none (by simp; omega)] at hi; cases hi
    rw [hi0] at hi
    cases hi
    rw [List.getElem?_append_right (by rw [h.len]; omega), h.len, hi0]
    exact ⟨A, k, rfl, ho⟩
theorem OwnRows.ints {w : World} {B B' n k : Nat} {A : Option Addr} {xs : List Value} {ls : List (List Int)} (h : OwnRows w B xs ls) (hr : w.ownsRow B' 37 1 (.slice A n k) n xs) : IntRows w A ls :=
  ⟨xs, Rd.of_own hr, h.len, fun i l hi => by
    obtain ⟨A', k', e, ho⟩ := h.row i l hi
    exact ⟨A', k', e, Rd.of_own ho, own_cap ho⟩⟩
/-- Rows of distances that are the call's own. -/
def DistR (w : World) (A : Option Addr) (k : Nat) (d : List (List Int)) : Prop := ∃ B xs, w.ownsRow B 37 1 (.slice A d.length k) d.length xs ∧ OwnRows w B xs d
theorem DistR.ints {w : World} {A : Option Addr} {k : Nat} {d : List (List Int)} (h : DistR w A k d) : IntRows w A d := by
  obtain ⟨B, xs, h1, h2⟩ := h
  exact h2.ints h1
theorem DistR.nil (w : World) : DistR w none 0 [] := ⟨0, [], own_nil _ _ _ _, OwnRows.nil _ _⟩
theorem DistR.ext {w w' : World} {A : Option Addr} {k : Nat} {d : List (List Int)} (h : DistR w A k d) (hx : Ext w w') : DistR w' A k d := by
  obtain ⟨B, xs, h1, h2⟩ := h
  exact ⟨B, xs, own_below h1 hx, h2.ext hx⟩
theorem DistR.keep {S : Nat → Prop} {w w' : World} {A : Option Addr} {k : Nat} {d : List (List Int)} (h : DistR w A k d) (hb : BelS S w w') (hS : ∀ g, S g → ∃ cs T, w.heap[g]? = some (.cells cs T (0, 0)) ∧ T ≠ 3 ∧ T ≠ 37) : DistR w' A k d := by
  obtain ⟨B, xs, h1, h2⟩ := h
  exact ⟨B, xs, hb.own h1 (fun g hg hs => by obtain ⟨cs, T, hh, _, hne⟩ := hS g hs; exact own_ne h1 hh hne hg), h2.keep hb (fun g hg => by obtain ⟨cs, T, hh, hne, _⟩ := hS g hg; exact ⟨cs, T, hh, hne⟩)⟩
/-! Rows of numbers in a block -/
def Nrow (w : World) (B : Nat) (l : List Int) : Prop := w.heap[B]? = some (.cells (l.map (Value.int .i64)).toArray 3 (0, 0))
theorem Nrow.lt {w : World} {B : Nat} {l : List Int} (h : Nrow w B l) : B < w.heap.size := (Array.getElem?_eq_some_iff.1 h).1
theorem Nrow.ext {w w' : World} {B : Nat} {l : List Int} (h : Nrow w B l) (hx : Ext w w') : Nrow w' B l := (Below.block hx B h.lt).trans h
theorem Nrow.at_ {w : World} {B : Nat} {l : List Int} (h : Nrow w B l) {k : Nat} {x : Int} (hk : l[k]? = some x) : w.cell? ⟨B, k, none⟩ = some (.int .i64 x) := by
  rw [cell_of_row w B k _ _ _ h]; simp [hk]
theorem Nrow.frozen {w : World} {B : Nat} {l : List Int} (h : Nrow w B l) (k : Nat) : w.frozen? ⟨B, k, none⟩ = false := by
  unfold Nrow at h
  simp [World.frozen?, h]
theorem Nrow.set {w : World} {B : Nat} {l : List Int} (h : Nrow w B l) (k : Nat) (x : Int) : Nrow (w.setCell ⟨B, k, none⟩ (.int .i64 x)) B (l.set k x) := by
  unfold Nrow at h ⊢
  simp only [World.setCell, Array.getElem?_modify, h, if_true, Option.map_some]
  simp only [List.setIfInBounds_toArray, List.map_set, Option.isSome_none, Bool.false_eq_true, if_false]
theorem Nrow.setne {w : World} {B : Nat} {l : List Int} (h : Nrow w B l) (p : Addr) (u : Value) (hp : B ≠ p.block) : Nrow (w.setCell p u) B l := (heap_setCell_ne _ _ _ _ hp).trans h
theorem Nrow.ints {w : World} {B : Nat} {l : List Int} (h : Nrow w B l) : Ints w (some ⟨B, 0, none⟩) l :=
  .inr ⟨B, 0, rfl, fun j u hu => by
    rw [Nat.zero_add]
    obtain ⟨x, hx, rfl⟩ : ∃ x, l[j]? = some x ∧ Value.int .i64 x = u := by simpa using hu
    exact h.at_ hx⟩
theorem Nrow.own {w : World} {B base : Nat} {l : List Int} (h : Nrow w B l) (hb : base ≤ B) {n : Nat} (hn : l.length = n) (hm : n ≤ maxLen) : w.ownsRow base 3 1 (.slice (some ⟨B, 0, none⟩) n n) n (l.map (.int .i64)) := by
  refine ⟨by simp [hn], .inr ⟨B, n, _, rfl, hb, h, Nat.le_refl _, hm, by simp [hn], ?_⟩⟩
  rw [Nat.mul_one]
  simp [← hn]
  exact List.take_of_length_le (by simp)
theorem infoInt : (Tryz.prog.info? 3).map (fun i => (i.zero, i.size, i.bytes)) = some (some (.int .i64 0), 1, 8) := by kernel_rfl
theorem made_nrow (n : Nat) : madeCells #[.int .i64 0] n = ((List.replicate n (0 : Int)).map (Value.int .i64)).toArray := by
  apply Array.ext
  · simp [madeCells]
  · intro i h1 h2
    simp [madeCells, Nat.mod_one]

end Go.Proofs.YtlonpgbapiemcaaGreat
