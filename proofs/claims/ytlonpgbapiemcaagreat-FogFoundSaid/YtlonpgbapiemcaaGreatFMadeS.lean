/- A fog that is being made: its block, its rows, the heap of numbers. No program stands here. -/
import Derived.Test.YtlonpgbapiemcaaGreatFMadeR
namespace Go.Proofs.YtlonpgbapiemcaaGreat
open Go Go.RowKit
set_option linter.unusedVariables false
set_option linter.unusedSimpArgs false

def mcells (f : Fg) (s : Ads) : Array Value := #[.int .i64 f.pl, .int .i64 f.mi, .slice s.a1 f.tr.length s.c1, .slice s.a2 f.bl.length s.c2, .slice s.a3 f.ct.length s.c3]
/-- The fog lies in block Bf, its rows in blocks of their own behind B0; besides, only the heap in block D has changed since w0. -/
structure FogSt (D Bf B0 : Nat) (w0 w : World) (f : Fg) (s : Ads) (xs : List Value) : Prop where
  blk : w.heap[Bf]? = some (.cells (mcells f s) 29 (0, 0))
  tr : w.ownsRow B0 78 2 (.slice s.a1 f.tr.length s.c1) f.tr.length (layPr.rows f.tr)
  bl : w.ownsRow B0 39 3 (.slice s.a2 f.bl.length s.c2) f.bl.length (layBl.rows f.bl)
  ct : w.ownsRow B0 63 2 (.slice s.a3 f.ct.length s.c3) f.ct.length xs
  oc : OCt false w B0 xs f.ct
  bel : Bel D w0 w
  hp : HeapR w D
  lo : D < Bf ∧ w0.heap.size ≤ Bf ∧ Bf < B0 ∧ D < w0.heap.size ∧ B0 ≤ w.heap.size
section
variable {D Bf B0 : Nat} {w0 w w' : World} {f : Fg} {s : Ads} {xs : List Value}
theorem OCt.base {fl : Bool} {w w' : World} {B : Nat} (hk : ∀ {e : TypeId} {size n : Nat} {v : Value} {ys : List Value}, w.ownsRow B e size v n ys → w'.ownsRow B e size v n ys) : ∀ {xs : List Value} {l : List Ct}, OCt fl w B xs l → OCt fl w' B xs l
  | [], [], _ => trivial
  | a :: b :: xs, x :: l, h => by
    obtain ⟨⟨⟨A, k, e1, h1⟩, A', k', e2, h2, h3⟩, h4⟩ := h
    exact ⟨⟨⟨A, k, e1, hk h1⟩, A', k', e2, hk h2, h3⟩, OCt.base hk h4⟩
  | [_], _, h => by cases ‹List Ct› <;> exact h.elim
theorem FogSt.deal (h : FogSt D Bf B0 w0 w f s xs) (hb : Bel D w w') (hh : HeapR w' D) : FogSt D Bf B0 w0 w' f s xs := by
  have hlo := h.lo
  have key : ∀ {e : TypeId} {size n : Nat} {v : Value} {ys : List Value}, w.ownsRow B0 e size v n ys → w'.ownsRow B0 e size v n ys := fun ho => hb.own ho (fun g hg e => by have := (ho.lt g hg).1; omega)
  exact ⟨hb.heap h.blk (by omega), key h.tr, key h.bl, key h.ct, h.oc.base key, h.bel.trans hb, hh, ⟨hlo.1, hlo.2.1, hlo.2.2.1, hlo.2.2.2.1, Nat.le_trans hlo.2.2.2.2 hb.size⟩⟩
theorem FogSt.ext (h : FogSt D Bf B0 w0 w f s xs) (hx : Ext w w') : FogSt D Bf B0 w0 w' f s xs := h.deal hx.bel (h.hp.ext hx)
theorem FogSt.cell (h : FogSt D Bf B0 w0 w f s xs) (i : Nat) : w.cell? ⟨Bf, i, none⟩ = (mcells f s)[i]? := by rw [cell_of_row w Bf i _ _ _ h.blk]
theorem FogSt.cells (h : FogSt D Bf B0 w0 w f s xs) : w.cell? ⟨Bf, 0, none⟩ = some (.int .i64 f.pl) ∧ w.cell? ⟨Bf, 1, none⟩ = some (.int .i64 f.mi) ∧ w.cell? ⟨Bf, 2, none⟩ = some (.slice s.a1 f.tr.length s.c1) ∧ w.cell? ⟨Bf, 3, none⟩ = some (.slice s.a2 f.bl.length s.c2) ∧ w.cell? ⟨Bf, 4, none⟩ = some (.slice s.a3 f.ct.length s.c3) :=
  ⟨h.cell 0, h.cell 1, h.cell 2, h.cell 3, h.cell 4⟩
theorem FogSt.free (h : FogSt D Bf B0 w0 w f s xs) (i : Nat) : w.frozen? ⟨Bf, i, none⟩ = false := by simp [World.frozen?, h.blk]
theorem FogSt.g (h : FogSt D Bf B0 w0 w f s xs) : OwnG w (s.val f) f := ⟨B0, s, xs, rfl, h.tr, h.bl, h.ct, h.oc⟩
theorem FogSt.gb (h : FogSt D Bf B0 w0 w f s xs) : OwnGB w B0 (s.val f) f := ⟨s, xs, rfl, h.tr, h.bl, h.ct, h.oc⟩
theorem FogSt.fg (h : FogSt D Bf B0 w0 w f s xs) : FgR w (s.val f) f := h.g.fg
/-- A row grows, and the fog's block is told of it. -/
theorem FogSt.grow {w5 : World} {e : TypeId} {v : Value} {size n : Nat} {ys : List Value} (h : FogSt D Bf B0 w0 w f s xs) (ho : w.ownsRow B0 e size v n ys) (hS : BelS (fun k => v.ownBlock = some k) w w5) (i : Nat) (u : Value) :
    Bel D w0 (w5.setCell ⟨Bf, i, none⟩ u) ∧ HeapR (w5.setCell ⟨Bf, i, none⟩ u) D ∧ (w5.setCell ⟨Bf, i, none⟩ u).heap[Bf]? = some (.cells ((mcells f s).setIfInBounds i u) 29 (0, 0)) ∧
    (∀ {e' : TypeId} {size' n' : Nat} {v' : Value} {ys' : List Value}, e' ≠ e → w.ownsRow B0 e' size' v' n' ys' → (w5.setCell ⟨Bf, i, none⟩ u).ownsRow B0 e' size' v' n' ys') ∧
    (∀ {e' : TypeId} {size' n' : Nat} {v' : Value} {ys' : List Value}, w5.ownsRow B0 e' size' v' n' ys' → (w5.setCell ⟨Bf, i, none⟩ u).ownsRow B0 e' size' v' n' ys') ∧ B0 ≤ (w5.setCell ⟨Bf, i, none⟩ u).heap.size := by
  obtain ⟨l1, l2, l3, l4, l5⟩ := h.lo
  have hv : ∀ g, v.ownBlock = some g → B0 ≤ g := fun g hg => (ho.lt g hg).1
  have hx : BelS (fun k => k = Bf) w5 (w5.setCell ⟨Bf, i, none⟩ u) := BelS.setCell (S := fun k => k = Bf) (BelS.refl _ w5) _ _ rfl
  have hb5 : w5.heap[Bf]? = some (.cells (mcells f s) 29 (0, 0)) := hS.heap h.blk (fun e => by have := hv _ e; omega)
  have k1 : ∀ {e' : TypeId} {size' n' : Nat} {v' : Value} {ys' : List Value}, w5.ownsRow B0 e' size' v' n' ys' → (w5.setCell ⟨Bf, i, none⟩ u).ownsRow B0 e' size' v' n' ys' := fun h5 => hx.own h5 (fun g hg e => by have := (h5.lt g hg).1; omega)
  refine ⟨?_, ?_, heap_set hb5 u, fun hne h5 => k1 (hS.own h5 (fun g hg e' => ?_)), k1, ?_⟩
  · exact (h.bel.then_ hS (fun k hk e => by have := hv k e; omega)).then_ hx (fun k hk e => by omega)
  · exact (h.hp.belS hS (fun k hk e => by have := hv k e; omega)).belS hx (fun k hk e => by omega)
  · -- the row that has grown is of another type
    rcases ho.2 with ⟨rfl, _⟩ | ⟨g0, cap, cur, rfl, _, hg0, _⟩
    · cases e'
    · have e1 : g0 = g := by simpa [Value.ownBlock] using e'
      subst e1
      exact own_ne h5 hg0 (fun x => hne x.symm) hg
  · have := hS.size
    have h2 := hx.size
    omega
theorem FogSt.addTr {w5 : World} {A5 : Option Addr} {c5 : Nat} (h : FogSt D Bf B0 w0 w f s xs) (hS : BelS (fun k => (Value.slice s.a1 f.tr.length s.c1).ownBlock = some k) w w5) (t : Int × Int) (ho : w5.ownsRow B0 78 2 (.slice A5 (f.tr.length + 1) c5) (f.tr.length + 1) (layPr.rows f.tr ++ layPr.cells t)) :
    FogSt D Bf B0 w0 (w5.setCell ⟨Bf, 2, none⟩ (.slice A5 (f.tr.length + 1) c5)) { f with tr := f.tr ++ [t] } { s with a1 := A5, c1 := c5 } xs := by
  obtain ⟨g1, g2, g3, g4, g5, g6⟩ := h.grow h.tr hS 2 (.slice A5 (f.tr.length + 1) c5)
  obtain ⟨l1, l2, l3, l4, l5⟩ := h.lo
  refine ⟨?_, ?_, g4 (by decide) h.bl, g4 (by decide) h.ct, ?_, g1, g2, l1, l2, l3, l4, g6⟩
  · rw [g3]; simp [mcells]
  · have := g5 ho
    simp only [List.length_append, List.length_singleton]
    rw [layPr.rows_app, layPr.rows_single]
    exact this
  · have hoc := h.oc
    exact OCt.kept2 g4 (by decide) (by decide) hoc
where
  OCt.kept2 {w w' : World} {B : Nat} {e0 : TypeId} (hk : ∀ {e' : TypeId} {size' n' : Nat} {v' : Value} {ys' : List Value}, e' ≠ e0 → w.ownsRow B e' size' v' n' ys' → w'.ownsRow B e' size' v' n' ys') (h1 : 3 ≠ e0) (h2 : 82 ≠ e0) : ∀ {xs : List Value} {l : List Ct}, OCt false w B xs l → OCt false w' B xs l
  | [], [], _ => trivial
  | a :: b :: xs, x :: l, h => by
    obtain ⟨⟨⟨A, k, e1, o1⟩, A', k', e2, o2, o3⟩, h4⟩ := h
    exact ⟨⟨⟨A, k, e1, hk h1 o1⟩, A', k', e2, hk h2 o2, o3⟩, OCt.kept2 hk h1 h2 h4⟩
  | [_], _, h => by cases ‹List Ct› <;> exact h.elim
theorem FogSt.addBl {w5 : World} {A5 : Option Addr} {c5 : Nat} (h : FogSt D Bf B0 w0 w f s xs) (hS : BelS (fun k => (Value.slice s.a2 f.bl.length s.c2).ownBlock = some k) w w5) (b : Bl) (ho : w5.ownsRow B0 39 3 (.slice A5 (f.bl.length + 1) c5) (f.bl.length + 1) (layBl.rows f.bl ++ layBl.cells b)) :
    FogSt D Bf B0 w0 (w5.setCell ⟨Bf, 3, none⟩ (.slice A5 (f.bl.length + 1) c5)) { f with bl := f.bl ++ [b] } { s with a2 := A5, c2 := c5 } xs := by
  obtain ⟨g1, g2, g3, g4, g5, g6⟩ := h.grow h.bl hS 3 (.slice A5 (f.bl.length + 1) c5)
  obtain ⟨l1, l2, l3, l4, l5⟩ := h.lo
  refine ⟨?_, g4 (by decide) h.tr, ?_, g4 (by decide) h.ct, FogSt.addTr.OCt.kept2 g4 (by decide) (by decide) h.oc, g1, g2, l1, l2, l3, l4, g6⟩
  · rw [g3]; simp [mcells]
  · have := g5 ho
    simp only [List.length_append, List.length_singleton]
    rw [layBl.rows_app, layBl.rows_single]
    exact this
theorem own_lower {w : World} {B B' : Nat} {e : TypeId} {size n : Nat} {v : Value} {ys : List Value} (h : w.ownsRow B e size v n ys) (hB : B' ≤ B) : w.ownsRow B' e size v n ys := by
  refine ⟨h.1, ?_⟩
  rcases h.2 with h | ⟨g, cap, cur, h1, h2, h3⟩
  · exact .inl h
  · exact .inr ⟨g, cap, cur, h1, Nat.le_trans hB h2, h3⟩
theorem FogSt.addCt {w5 : World} {A5 A : Option Addr} {c5 k : Nat} (h : FogSt D Bf B0 w0 w f s xs) (hS : BelS (fun k => (Value.slice s.a3 f.ct.length s.c3).ownBlock = some k) w w5) (st : List Int)
    (hst : w.ownsRow B0 3 1 (.slice A st.length k) st.length (st.map (.int .i64)))
    (ho : w5.ownsRow B0 63 2 (.slice A5 (f.ct.length + 1) c5) (f.ct.length + 1) (xs ++ [.slice A st.length k, .slice none 0 0])) :
    FogSt D Bf B0 w0 (w5.setCell ⟨Bf, 4, none⟩ (.slice A5 (f.ct.length + 1) c5)) { f with ct := f.ct ++ [⟨st, []⟩] } { s with a3 := A5, c3 := c5 } (xs ++ [.slice A st.length k, .slice none 0 0]) := by
  obtain ⟨g1, g2, g3, g4, g5, g6⟩ := h.grow h.ct hS 4 (.slice A5 (f.ct.length + 1) c5)
  obtain ⟨l1, l2, l3, l4, l5⟩ := h.lo
  refine ⟨?_, g4 (by decide) h.tr, g4 (by decide) h.bl, ?_, ?_, g1, g2, l1, l2, l3, l4, g6⟩
  · rw [g3]; simp [mcells]
  · have := g5 ho
    simp only [List.length_append, List.length_singleton]
    exact this
  · exact OCt.snoc (x := ⟨st, []⟩) ⟨⟨A, k, rfl, g4 (by decide) hst⟩, none, 0, rfl, own_nil _ _ _ _, fun e => by cases e⟩ (FogSt.addTr.OCt.kept2 g4 (by decide) (by decide) h.oc)
end
end Go.Proofs.YtlonpgbapiemcaaGreat
