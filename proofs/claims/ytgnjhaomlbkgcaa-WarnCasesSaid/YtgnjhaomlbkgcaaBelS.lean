/- All blocks but those of a kind as they were. No program stands here. -/
import Derived.Test.YtgnjhaomlbkgcaaHeap
import Derived.Test.YtgnjhaomlbkgcaaRegPre
namespace Go.Proofs.Ytgnjhaomlbkgcaa
open Go Go.RowKit
set_option linter.unusedVariables false
set_option linter.unusedSimpArgs false

def BelS (S : Nat → Prop) (w w' : World) : Prop := Below 0 w w' ∧ ∀ k, k < w.heap.size → ¬ S k → w'.heap[k]? = w.heap[k]?
theorem BelS.refl (S : Nat → Prop) (w : World) : BelS S w w := ⟨Below.refl _ _, fun _ _ _ => rfl⟩
theorem BelS.size {S : Nat → Prop} {w w' : World} (h : BelS S w w') : w.heap.size ≤ w'.heap.size := h.1.size
theorem BelS.trans {S : Nat → Prop} {a b c : World} (h : BelS S a b) (k : BelS S b c) : BelS S a c :=
  ⟨h.1.trans k.1, fun i hi hD => (k.2 i (Nat.lt_of_lt_of_le hi h.size) hD).trans (h.2 i hi hD)⟩
theorem BelS.mono {S S' : Nat → Prop} {w w' : World} (h : BelS S w w') (hs : ∀ k, k < w.heap.size → S k → S' k) : BelS S' w w' := ⟨h.1, fun k hk hn => h.2 k hk fun hS => hn (hs k hk hS)⟩
theorem Ext.belS {S : Nat → Prop} {w w' : World} (h : Ext w w') : BelS S w w' := ⟨Below.mono h (Nat.zero_le _), fun k hk _ => Below.block h k hk⟩
theorem Bel.belS {S : Nat → Prop} {D : Nat} {w w' : World} (h : Bel D w w') (hD : S D) : BelS S w w' := ⟨h.1, fun k hk hn => h.2 k hk (fun e => hn (by rw [e]; exact hD))⟩
theorem BelS.bel {S : Nat → Prop} {D : Nat} {w w' : World} (h : BelS S w w') (hD : ∀ k, k < w.heap.size → S k → k = D) : Bel D w w' := ⟨h.1, fun k hk hn => h.2 k hk (fun e => hn (hD k hk e))⟩
theorem BelS.ext {S : Nat → Prop} {w w' : World} (h : BelS S w w') (hS : ∀ k, k < w.heap.size → ¬ S k) : Ext w w' := by
  obtain ⟨⟨h1, h2, h3, h4, h5⟩, h6⟩ := h
  exact ⟨h1, h2, h3, h4, fun k hk => h6 k hk (hS k hk)⟩
theorem BelS.setCell {S : Nat → Prop} {a w : World} (h : BelS S a w) (p : Addr) (u : Value) (hp : S p.block) : BelS S a (w.setCell p u) :=
  h.trans ⟨(Below.refl 0 w).setCell (Nat.zero_le _) u, fun k _ hD => heap_setCell_ne _ _ _ _ (fun e => hD (by rw [e]; exact hp))⟩
theorem BelS.drewN {S : Nat → Prop} {a w : World} (h : BelS S a w) (n : Nat) : BelS S a (w.drewN n) := h.trans (Ext.belS (Ext.drewN (Ext.refl _) n))
theorem BelS.drew {S : Nat → Prop} {a w : World} (h : BelS S a w) : BelS S a w.drew := h.trans (Ext.belS (Ext.drew (Ext.refl _)))
theorem BelS.alloc {S : Nat → Prop} {a w : World} (h : BelS S a w) (o : Obj) : BelS S a (w.alloc o) := h.trans (Ext.belS (Ext.alloc (Ext.refl _) o))
theorem BelS.grown {S : Nat → Prop} {a w w' : World} {row : Option Nat} (h : BelS S a w) (hg : w.grownBy w' row) (hr : ∀ k, row = some k → S k) : BelS S a w' :=
  h.trans ⟨(Below.refl 0 w).grown hg (Nat.zero_le _) (fun _ _ => Nat.zero_le _), fun k hk hn => hg.block k hk (fun e => hn (hr k e.symm))⟩
theorem BelS.heap {S : Nat → Prop} {w w' : World} (h : BelS S w w') {k : Nat} {o : Obj} (hk : w.heap[k]? = some o) (hn : ¬ S k) : w'.heap[k]? = some o :=
  (h.2 k (Array.getElem?_eq_some_iff.1 hk).1 hn).trans hk
theorem BelS.cell {S : Nat → Prop} {w w' : World} (h : BelS S w w') {p : Addr} {u : Value} (hp : w.cell? p = some u) (hn : ¬ S p.block) : w'.cell? p = some u :=
  (cell_of_heap (h.2 _ (World.block_lt_of_cell? w p hp) hn)).trans hp
theorem BelS.rd {S : Nat → Prop} {w w' : World} (h : BelS S w w') {A : Option Addr} {xs : List Value} (hA : Rd w A xs) (hn : ∀ a, A = some a → ¬ S a.block) : Rd w' A xs := by
  rcases hA with hA | ⟨b, off, rfl, hc⟩
  · exact .inl hA
  · exact .inr ⟨b, off, rfl, fun j u hu => h.cell (hc j u hu) (hn ⟨b, off, none⟩ rfl)⟩
theorem BelS.own {S : Nat → Prop} {w w' : World} (hb : BelS S w w') {base e size n : Nat} {v : Value} {xs : List Value} (h : w.ownsRow base e size v n xs) (hn : ∀ g, v.ownBlock = some g → ¬ S g) : w'.ownsRow base e size v n xs := by
  refine ⟨h.1, ?_⟩
  rcases h.2 with h | ⟨g, cap, cur, rfl, h1, h2, h3⟩
  · exact .inl h
  · exact .inr ⟨g, cap, cur, rfl, h1, hb.heap h2 (hn g rfl), h3⟩
theorem HeapR.belS {S : Nat → Prop} {w w' : World} {D : Nat} (h : HeapR w D) (hx : BelS S w w') (hS : ∀ k, k ≤ D → ¬ S k) : HeapR w' D := by
  obtain ⟨A, l, cap, nx, rd, h1, h2, h3, h4, h5⟩ := h
  refine ⟨A, l, cap, nx, rd, hx.heap h1 (hS D (Nat.le_refl _)), ?_, h3, h4, h5⟩
  by_cases hl0 : l = []
  · subst hl0; exact .inl rfl
  · exact hx.rd h2 (fun a ha => hS _ (Nat.le_of_lt ((h4 a ha).resolve_left hl0)))
/-- What a call that deals numbers does: nothing but to the heap. -/
def Deal (D : Nat) (w w' : World) : Prop := Bel D w w' ∧ (HeapR w D → HeapR w' D)
theorem Deal.refl (D : Nat) (w : World) : Deal D w w := ⟨Bel.refl _ _, fun h => h⟩
theorem Deal.trans {D : Nat} {a b c : World} (h : Deal D a b) (k : Deal D b c) : Deal D a c := ⟨h.1.trans k.1, fun x => k.2 (h.2 x)⟩
theorem Deal.mk' {D : Nat} {w w' : World} (h : Bel D w w') (k : HeapR w' D) : Deal D w w' := ⟨h, fun _ => k⟩
theorem Deal.ext {D : Nat} {w w' : World} (h : Ext w w') : Deal D w w' := ⟨h.bel, fun k => k.ext h⟩
theorem Bel.rd {D : Nat} {w w' : World} (h : Bel D w w') {A : Option Addr} {xs : List Value} (hA : Rd w A xs) (hn : ∀ a, A = some a → a.block ≠ D) : Rd w' A xs := (h.belS (S := fun k => k = D) rfl).rd hA hn
theorem Bel.own {D : Nat} {w w' : World} (hb : Bel D w w') {base e size n : Nat} {v : Value} {xs : List Value} (h : w.ownsRow base e size v n xs) (hn : ∀ g, v.ownBlock = some g → g ≠ D) : w'.ownsRow base e size v n xs := (hb.belS (S := fun k => k = D) rfl).own h hn
theorem Bel.setNew {D : Nat} {a w : World} (h : Bel D a w) (p : Addr) (u : Value) (hp : a.heap.size ≤ p.block) : Bel D a (w.setCell p u) :=
  ⟨h.1.trans ((Below.refl 0 w).setCell (Nat.zero_le _) u), fun k hk hD => (heap_setCell_ne _ _ _ _ (by omega)).trans (h.2 k hk hD)⟩
theorem Bel.drew {D : Nat} {a w : World} (h : Bel D a w) : Bel D a w.drew := h.trans (Ext.bel (Ext.drew (Ext.refl _)))
theorem Bel.then_ {S : Nat → Prop} {D : Nat} {a b c : World} (h : Bel D a b) (k : BelS S b c) (hS : ∀ i, i < a.heap.size → S i → i = D) : Bel D a c :=
  ⟨h.1.trans k.1, fun i hi hD => (k.2 i (Nat.lt_of_lt_of_le hi h.size) (fun e => hD (hS i hi e))).trans (h.2 i hi hD)⟩
theorem BelS.then_ {S S' : Nat → Prop} {a b c : World} (h : BelS S' a b) (k : BelS S b c) (hS : ∀ i, i < a.heap.size → S i → S' i) : BelS S' a c :=
  ⟨h.1.trans k.1, fun i hi hD => (k.2 i (Nat.lt_of_lt_of_le hi h.size) (fun e => hD (hS i hi e))).trans (h.2 i hi hD)⟩
end Go.Proofs.Ytgnjhaomlbkgcaa
