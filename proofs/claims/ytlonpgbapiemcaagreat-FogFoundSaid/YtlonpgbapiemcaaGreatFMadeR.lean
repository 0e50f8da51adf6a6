/- How a made fog lies: rows of its own, told by their types, that the heap of numbers does not touch. No program stands here. -/
import Derived.Test.YtlonpgbapiemcaaGreatFOwn
import Derived.Test.YtlonpgbapiemcaaGreatFHeap
import Derived.Test.YtlonpgbapiemcaaGreatFMadeP
namespace Go.Proofs.YtlonpgbapiemcaaGreat
open Go Go.RowKit
set_option linter.unusedVariables false
set_option linter.unusedSimpArgs false

/-- A fog whose rows are its own, nil ones too. -/
def OwnGB (w : World) (B : Nat) (v : Value) (f : Fg) : Prop := ∃ (s : Ads) (xs : List Value), v = s.val f ∧ w.ownsRow B 78 2 (.slice s.a1 f.tr.length s.c1) f.tr.length (layPr.rows f.tr) ∧ w.ownsRow B 39 3 (.slice s.a2 f.bl.length s.c2) f.bl.length (layBl.rows f.bl) ∧ w.ownsRow B 63 2 (.slice s.a3 f.ct.length s.c3) f.ct.length xs ∧ OCt false w B xs f.ct
def OwnG (w : World) (v : Value) (f : Fg) : Prop := ∃ B : Nat, OwnGB w B v f
theorem OwnG.fg {w : World} {v : Value} {f : Fg} (h : OwnG w v f) : FgR w v f := by
  obtain ⟨B, s, xs, rfl, h1, h2, h3, h4⟩ := h
  exact ⟨_, _, _, _, _, _, rfl, Rd.of_own h1, Rd.of_own h2, ⟨xs, Rd.of_own h3, h4.toC⟩, own_cap h1, own_cap h2, own_cap h3⟩
theorem OwnG.ext {w w' : World} {v : Value} {f : Fg} (h : OwnG w v f) (hx : Ext w w') : OwnG w' v f := by
  obtain ⟨B, s, xs, rfl, h1, h2, h3, h4⟩ := h
  exact ⟨B, s, xs, rfl, own_below h1 hx, own_below h2 hx, own_below h3 hx, h4.ext hx⟩
theorem OwnG.keep {S : Nat → Prop} {w w' : World} {v : Value} {f : Fg} (h : OwnG w v f) (hb : BelS S w w') (hS : FogB w S) : OwnG w' v f := by
  obtain ⟨B, s, xs, rfl, h1, h2, h3, h4⟩ := h
  refine ⟨B, s, xs, rfl, hb.own h1 (fun g hg hs => ?_), hb.own h2 (fun g hg hs => ?_), hb.own h3 (fun g hg hs => ?_), OCt.keep hb (fun g hg => ?_) h4⟩
  · obtain ⟨cs, T, hh, n1, n2, n3, n4, n5⟩ := hS g hs; exact own_ne h1 hh n1 hg
  · obtain ⟨cs, T, hh, n1, n2, n3, n4, n5⟩ := hS g hs; exact own_ne h2 hh n2 hg
  · obtain ⟨cs, T, hh, n1, n2, n3, n4, n5⟩ := hS g hs; exact own_ne h3 hh n3 hg
  · obtain ⟨cs, T, hh, n1, n2, n3, n4, n5⟩ := hS g hg; exact ⟨cs, T, hh, n4, n5⟩
theorem OwnGB.keep {S : Nat → Prop} {w w' : World} {B : Nat} {v : Value} {f : Fg} (h : OwnGB w B v f) (hb : BelS S w w') (hS : FogB w S) : OwnGB w' B v f := by
  obtain ⟨s, xs, rfl, h1, h2, h3, h4⟩ := h
  refine ⟨s, xs, rfl, hb.own h1 (fun g hg hs => ?_), hb.own h2 (fun g hg hs => ?_), hb.own h3 (fun g hg hs => ?_), OCt.keep hb (fun g hg => ?_) h4⟩
  · obtain ⟨cs, T, hh, n1, n2, n3, n4, n5⟩ := hS g hs; exact own_ne h1 hh n1 hg
  · obtain ⟨cs, T, hh, n1, n2, n3, n4, n5⟩ := hS g hs; exact own_ne h2 hh n2 hg
  · obtain ⟨cs, T, hh, n1, n2, n3, n4, n5⟩ := hS g hs; exact own_ne h3 hh n3 hg
  · obtain ⟨cs, T, hh, n1, n2, n3, n4, n5⟩ := hS g hg; exact ⟨cs, T, hh, n4, n5⟩
theorem OwnF.g {w : World} {v : Value} {f : Fg} (h : OwnF w v f) : OwnG w v f := by
  obtain ⟨B, g1, q1, g2, q2, D, kd, xs, rfl, h1, h2, h3, h4⟩ := h
  refine ⟨B, ⟨some ⟨g1, 0, none⟩, q1, some ⟨g2, 0, none⟩, q2, D, kd⟩, xs, rfl, h1, h2, h3, ?_⟩
  have key : ∀ {xs : List Value} {l : List Ct}, OCt true w B xs l → OCt false w B xs l := by
    intro xs l
    induction l generalizing xs with
    | nil =>
      intro h
      cases xs with
      | nil => trivial
      | cons a ys => cases ys <;> exact h.elim
    | cons x l ih =>
      intro h
      match xs, h with
      | a :: b :: ys, h =>
        obtain ⟨⟨h1, A', k', e2, h2, -⟩, h3⟩ := h
        exact ⟨⟨h1, A', k', e2, h2, fun e => by cases e⟩, ih h3⟩
  exact key h4
theorem OCt.get {fl : Bool} {w : World} {B : Nat} : ∀ {xs : List Value} {l : List Ct} {k : Nat} {x : Ct}, OCt fl w B xs l → l[k]? = some x → ∃ a b, xs[k * 2]? = some a ∧ xs[k * 2 + 1]? = some b ∧ OC fl w B a b x
  | [], [], k, x, _, h => by simp at h
  | a :: b :: xs, y :: l, 0, x, h, hk => by
    simp at hk; subst hk
    exact ⟨a, b, rfl, rfl, h.1⟩
  | a :: b :: xs, y :: l, k + 1, x, h, hk => by
    obtain ⟨a', b', h1, h2, h3⟩ := OCt.get h.2 (show l[k]? = some x by simpa using hk)
    exact ⟨a', b', by rw [show (k + 1) * 2 = k * 2 + 1 + 1 by omega]; simpa using h1, by rw [show (k + 1) * 2 = k * 2 + 1 + 1 by omega]; simpa using h2, h3⟩
  | [_], _, _, _, h, _ => by cases ‹List Ct› <;> exact h.elim
/-- The cells of a cart in memory, its rows typed. -/
theorem OwnG.cart {w : World} {v : Value} {f : Fg} (h : OwnG w v f) {k : Nat} {c : Ct} (hk : f.ct[k]? = some c) : ∃ (s : Ads) (b off : Nat) (A1 : Option Addr) (c1 : Nat) (A2 : Option Addr) (c2 B : Nat), v = s.val f ∧ s.a3 = some ⟨b, off, none⟩ ∧
    w.cell? ⟨b, off + k * 2, none⟩ = some (.slice A1 c.st.length c1) ∧ w.cell? ⟨b, off + k * 2 + 1, none⟩ = some (.slice A2 c.rp.length c2) ∧ w.ownsRow B 3 1 (.slice A1 c.st.length c1) c.st.length (c.st.map (.int .i64)) ∧ w.ownsRow B 82 2 (.slice A2 c.rp.length c2) c.rp.length (layRp.rows c.rp) := by
  obtain ⟨B, s, xs, rfl, h1, h2, h3, h4⟩ := h
  obtain ⟨a, b, e1, e2, ⟨A1, c1, rfl, o1⟩, A2, c2, rfl, o2, -⟩ := h4.get hk
  obtain ⟨bb, off, hA, hc⟩ := Rd.at_ (Rd.of_own h3) (by intro e; rw [e] at e1; simp at e1)
  exact ⟨s, bb, off, A1, c1, A2, c2, B, rfl, hA, hc _ _ e1, by have := hc _ _ e2; rwa [← Nat.add_assoc] at this, o1, o2⟩
/-- The heap's block is of a type of its own. -/
theorem HeapR.fogB {w : World} {D : Nat} (h : HeapR w D) : FogB w (fun n => n = D) := fun g hg => by
  obtain ⟨A, l, cap, nx, rd, h1, -⟩ := h
  rw [hg]
  exact ⟨_, _, h1, by decide, by decide, by decide, by decide, by decide⟩
theorem OwnG.bel {w w' : World} {v : Value} {f : Fg} {D : Nat} (h : OwnG w v f) (hh : HeapR w D) (hb : Bel D w w') : OwnG w' v f := h.keep (S := fun n => n = D) (hb.belS rfl) hh.fogB
theorem Deal_own {w w' : World} {D B n c : Nat} {A : Option Addr} {xs : List Value} (hh : HeapR w D) (h : w.ownsRow B 3 1 (.slice A n c) n xs) (hb : Bel D w w') : w'.ownsRow B 3 1 (.slice A n c) n xs :=
  hb.own h (fun g hg e => by
    obtain ⟨cs, T, h1, -, -, -, n4, -⟩ := hh.fogB g e
    exact own_ne h h1 n4 hg)
end Go.Proofs.YtlonpgbapiemcaaGreat
