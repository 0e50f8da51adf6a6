/- The fog of a law that makes fogs: its block, its rows with their types, the heap of numbers; what stores into it leave. No program stands here. -/
import Derived.Test.YtlonpgbapiemcaaGreatFMadeS
namespace Go.Proofs.YtlonpgbapiemcaaGreat
open Go Go.RowKit
set_option linter.unusedVariables false
set_option linter.unusedSimpArgs false

/-- The fog lies in block F, its rows in blocks of their own behind B, the heap of numbers in block D; nothing ahead of B has changed since w0. -/
structure GSt (D F B : Nat) (w0 w : World) (f : Fg) (s : Ads) (xs : List Value) : Prop where
  blk : w.heap[F]? = some (.cells (mcells f s) 29 (0, 0))
  tr : w.ownsRow B 78 2 (.slice s.a1 f.tr.length s.c1) f.tr.length (layPr.rows f.tr)
  bl : w.ownsRow B 39 3 (.slice s.a2 f.bl.length s.c2) f.bl.length (layBl.rows f.bl)
  ct : w.ownsRow B 63 2 (.slice s.a3 f.ct.length s.c3) f.ct.length xs
  oc : OCt false w B xs f.ct
  hp : HeapR w D
  ext : Ext w0 w
  lo : w0.heap.size ≤ D ∧ D < B ∧ D < F
theorem Ext.then_belS {S : Nat → Prop} {a b c : World} (h : Ext a b) (h0 : ∀ k, S k → a.heap.size ≤ k) (k : BelS S b c) : Ext a c :=
  ((Ext.belS (S := fun _ => False) h).then_ k (fun i hi hs => by have := h0 i hs; omega)).ext (fun _ _ x => x)
section
variable {D F B : Nat} {w0 w w' : World} {f : Fg} {s : Ads} {xs : List Value}
theorem GSt.lt (h : GSt D F B w0 w f s xs) : F < w.heap.size := (Array.getElem?_eq_some_iff.1 h.blk).1
theorem GSt.ne (h : GSt D F B w0 w f s xs) : F ≠ D := by have := h.lo; omega
theorem OCt.lower {fl : Bool} {w : World} {B B' : Nat} (hB : B' ≤ B) : ∀ {xs : List Value} {l : List Ct}, OCt fl w B xs l → OCt fl w B' xs l
  | [], [], _ => trivial
  | a :: b :: xs, x :: l, h => by
    obtain ⟨⟨⟨A, k, e1, h1⟩, A', k', e2, h2, h3⟩, h4⟩ := h
    exact ⟨⟨⟨A, k, e1, own_lower h1 hB⟩, A', k', e2, own_lower h2 hB, h3⟩, OCt.lower hB h4⟩
  | [_], _, h => by cases ‹List Ct› <;> exact h.elim
/-- Out of what Made hands back, stored in a block of its own. -/
theorem GSt.start {wm : World} {v : Value} {B1 : Nat} (hg : OwnGB wm B1 v f) (hh : HeapR wm D) (hx : Ext w0 wm) (hB : D < B1) (hD : w0.heap.size ≤ D) : ∃ s xs, v = s.val f ∧ GSt D wm.heap.size (D + 1) w0 (wm.alloc (.cells (mcells f s) 29)) f s xs := by
  obtain ⟨s, xs, e, h1, h2, h3, h4⟩ := hg
  have ha := Ext.alloc (Ext.refl wm) (.cells (mcells f s) 29)
  exact ⟨s, xs, e, heap_alloc_new wm _, own_lower (own_below h1 ha) hB, own_lower (own_below h2 ha) hB, own_lower (own_below h3 ha) hB, (h4.ext ha).lower hB, hh.ext ha, hx.trans ha, hD, Nat.lt_succ_self D, hh.lt⟩
/-- What a change of some blocks leaves, by the types of the blocks. -/
theorem GSt.keep {S : Nat → Prop} (h : GSt D F B w0 w f s xs) (hb : BelS S w w') (hS : FogB w S) (hF : ¬ S F) (hh : HeapR w' D) (h0 : ∀ k, S k → w0.heap.size ≤ k) : GSt D F B w0 w' f s xs := by
  refine ⟨hb.heap h.blk hF, hb.own h.tr (fun g hg hs => ?_), hb.own h.bl (fun g hg hs => ?_), hb.own h.ct (fun g hg hs => ?_), OCt.keep hb (fun g hg => ?_) h.oc, hh, Ext.then_belS h.ext h0 hb, h.lo⟩
  · obtain ⟨cs, T, hh, n1, n2, n3, n4, n5⟩ := hS g hs; exact own_ne h.tr hh n1 hg
  · obtain ⟨cs, T, hh, n1, n2, n3, n4, n5⟩ := hS g hs; exact own_ne h.bl hh n2 hg
  · obtain ⟨cs, T, hh, n1, n2, n3, n4, n5⟩ := hS g hs; exact own_ne h.ct hh n3 hg
  · obtain ⟨cs, T, hh, n1, n2, n3, n4, n5⟩ := hS g hg; exact ⟨cs, T, hh, n4, n5⟩
theorem GSt.bel (h : GSt D F B w0 w f s xs) (hb : Bel D w w') (hh : HeapR w' D) : GSt D F B w0 w' f s xs :=
  h.keep (S := fun n => n = D) (hb.belS rfl) h.hp.fogB h.ne hh (fun k e => by rw [e]; exact h.lo.1)
theorem GSt.out (h : GSt D F B w0 w f s xs) (hx : Ext w w') : GSt D F B w0 w' f s xs := h.bel hx.bel (h.hp.ext hx)
theorem GSt.cells (h : GSt D F B w0 w f s xs) : w.cell? ⟨F, 0, none⟩ = some (.int .i64 f.pl) ∧ w.cell? ⟨F, 1, none⟩ = some (.int .i64 f.mi) ∧ w.cell? ⟨F, 2, none⟩ = some (.slice s.a1 f.tr.length s.c1) ∧ w.cell? ⟨F, 3, none⟩ = some (.slice s.a2 f.bl.length s.c2) ∧ w.cell? ⟨F, 4, none⟩ = some (.slice s.a3 f.ct.length s.c3) :=
  have h1 : ∀ i, w.cell? ⟨F, i, none⟩ = (mcells f s)[i]? := fun i => by rw [cell_of_row w F i _ _ _ h.blk]
  ⟨h1 0, h1 1, h1 2, h1 3, h1 4⟩
theorem GSt.free (h : GSt D F B w0 w f s xs) (i : Nat) : w.frozen? ⟨F, i, none⟩ = false := by simp [World.frozen?, h.blk]
theorem GSt.gb (h : GSt D F B w0 w f s xs) : OwnGB w B (s.val f) f := ⟨s, xs, rfl, h.tr, h.bl, h.ct, h.oc⟩
theorem GSt.g (h : GSt D F B w0 w f s xs) : OwnG w (s.val f) f := ⟨B, h.gb⟩
theorem GSt.fg (h : GSt D F B w0 w f s xs) : FgR w (s.val f) f := h.g.fg
theorem GSt.rows (h : GSt D F B w0 w f s xs) : FRows w s f := ⟨Rd.of_own h.tr, Rd.of_own h.bl, ⟨xs, Rd.of_own h.ct, h.oc.toC⟩, own_cap h.tr, own_cap h.bl, own_cap h.ct⟩
theorem GSt.keepF {w5 : World} (h : GSt D F B w0 w f s xs) (hS : BelS (fun k => (Value.slice s.a3 f.ct.length s.c3).ownBlock = some k) w w5) : w5.heap[F]? = some (.cells (mcells f s) 29 (0, 0)) := by
  refine hS.heap h.blk fun e => ?_
  rcases h.ct.2 with ⟨e1, _⟩ | ⟨g0, cap, cur, e1, _, hg0, _⟩
  · rw [e1] at e; cases e
  · rw [e1] at e
    have e2 : g0 = F := by simpa [Value.ownBlock] using e
    subst e2
    rw [h.blk] at hg0
    injection hg0 with h1
    injection h1 with _ h1 _
    exact absurd h1 (by decide)
/-- Carts are appended, and the fog's block is told of it. -/
theorem GSt.addCt {w5 : World} {A5 A : Option Addr} {c5 k : Nat} (h : GSt D F B w0 w f s xs) (hS : BelS (fun k => (Value.slice s.a3 f.ct.length s.c3).ownBlock = some k) w w5) (st : List Int)
    (hst : w.ownsRow B 3 1 (.slice A st.length k) st.length (st.map (.int .i64)))
    (ho : w5.ownsRow B 63 2 (.slice A5 (f.ct.length + 1) c5) (f.ct.length + 1) (xs ++ [.slice A st.length k, .slice none 0 0])) :
    GSt D F B w0 (w5.setCell ⟨F, 4, none⟩ (.slice A5 (f.ct.length + 1) c5)) { f with ct := f.ct ++ [⟨st, []⟩] } { s with a3 := A5, c3 := c5 } (xs ++ [.slice A st.length k, .slice none 0 0]) := by
  have hty : ∀ g, (Value.slice s.a3 f.ct.length s.c3).ownBlock = some g → w.heap.size ≤ w.heap.size ∧ ∃ cur, w.heap[g]? = some (.cells cur 63 (0, 0)) := fun g hg => by
    rcases h.ct.2 with ⟨e, _⟩ | ⟨g0, cap, cur, e, _, hg0, _⟩
    · rw [e] at hg; cases hg
    · rw [e] at hg
      have e1 : g0 = g := by simpa [Value.ownBlock] using hg
      subst e1
      exact ⟨Nat.le_refl _, cur, hg0⟩
  have hF : ¬ (Value.slice s.a3 f.ct.length s.c3).ownBlock = some F := fun e => by
    obtain ⟨-, cur, h1⟩ := hty F e
    rw [h.blk] at h1
    injection h1 with h1
    injection h1 with _ h1 _
    exact absurd h1 (by decide)
  have hx : BelS (fun k => k = F) w5 (w5.setCell ⟨F, 4, none⟩ (.slice A5 (f.ct.length + 1) c5)) := BelS.setCell (S := fun k => k = F) (BelS.refl _ w5) _ _ rfl
  have hb5 : w5.heap[F]? = some (.cells (mcells f s) 29 (0, 0)) := hS.heap h.blk hF
  have hne5 : ∀ {e' : TypeId} {size' n' : Nat} {v' : Value} {ys' : List Value}, e' ≠ 29 → w5.ownsRow B e' size' v' n' ys' → (w5.setCell ⟨F, 4, none⟩ (.slice A5 (f.ct.length + 1) c5)).ownsRow B e' size' v' n' ys' := fun hne h5 => hx.own h5 (fun g hg e => by
    subst e
    exact own_ne h5 hb5 (fun x => hne x.symm) hg)
  have k4 : ∀ {e' : TypeId} {size' n' : Nat} {v' : Value} {ys' : List Value}, e' ≠ 63 → e' ≠ 29 → w.ownsRow B e' size' v' n' ys' → (w5.setCell ⟨F, 4, none⟩ (.slice A5 (f.ct.length + 1) c5)).ownsRow B e' size' v' n' ys' := fun hne hne2 h5 => hne5 hne2 (hS.own h5 (fun g hg e' => by
    obtain ⟨-, cur, h1⟩ := hty g e'
    exact own_ne h5 h1 (fun x => hne x.symm) hg))
  have hlow : ∀ k, (Value.slice s.a3 f.ct.length s.c3).ownBlock = some k → w0.heap.size ≤ k := fun k e => by have := (h.ct.lt k e).1; have := h.lo; omega
  have kk : ∀ {xs : List Value} {l : List Ct}, OCt false w B xs l → OCt false (w5.setCell ⟨F, 4, none⟩ (.slice A5 (f.ct.length + 1) c5)) B xs l := fun {xs l} => by
    induction l generalizing xs with
    | nil =>
      intro h
      cases xs with
      | nil => trivial
      | cons a ys => cases ys <;> exact h.elim
    | cons x l ih =>
      intro h
      match xs, h with
      | a :: b :: ys, h =>
        obtain ⟨⟨⟨A, k, e1, o1⟩, A', k', e2, o2, o3⟩, h4⟩ := h
        exact ⟨⟨⟨A, k, e1, k4 (by decide) (by decide) o1⟩, A', k', e2, k4 (by decide) (by decide) o2, o3⟩, ih h4⟩
  refine ⟨?_, k4 (by decide) (by decide) h.tr, k4 (by decide) (by decide) h.bl, ?_, ?_, ?_, ?_, h.lo⟩
  · rw [heap_set hb5]; simp [mcells]
  · have := hne5 (by decide) ho
    simp only [List.length_append, List.length_singleton]
    exact this
  · exact OCt.snoc (x := ⟨st, []⟩) ⟨⟨A, k, rfl, k4 (by decide) (by decide) hst⟩, none, 0, rfl, own_nil _ _ _ _, fun e => by cases e⟩ (kk h.oc)
  · have hlo := h.lo
    exact (h.hp.belS hS (fun k hk e => by have := (h.ct.lt k e).1; omega)).belS hx (fun k hk e => by omega)
  · have hlo := h.lo
    exact Ext.then_belS (Ext.then_belS h.ext hlow hS) (fun k e => by omega) hx
theorem OCt.setRp {w : World} {B : Nat} {b' : Value} {rs : List Rp} (hb : ∃ A c, b' = .slice A rs.length c ∧ w.ownsRow B 82 2 (.slice A rs.length c) rs.length (layRp.rows rs)) : ∀ {xs : List Value} {l : List Ct} {k : Nat} {c : Ct}, OCt false w B xs l → l[k]? = some c → OCt false w B (xs.set (k * 2 + 1) b') (l.set k ⟨c.st, rs⟩)
  | [], [], k, c, _, h => by simp at h
  | a :: b :: xs, y :: l, 0, c, h, hk => by
    simp at hk; subst hk
    obtain ⟨⟨h1, _⟩, h4⟩ := h
    obtain ⟨A, c', e, ho⟩ := hb
    exact ⟨⟨h1, A, c', e, ho, fun e => by cases e⟩, h4⟩
  | a :: b :: xs, y :: l, k + 1, c, h, hk => by
    rw [show (k + 1) * 2 + 1 = k * 2 + 1 + 1 + 1 by omega]
    exact ⟨h.1, OCt.setRp hb h.2 (by simpa using hk)⟩
  | [_], _, _, _, h, _ => by cases ‹List Ct› <;> exact h.elim
/-- Reports are stored in a cart. -/
theorem GSt.setRp {A : Option Addr} {k cA : Nat} {c : Ct} {rs : List Rp} (h : GSt D F B w0 w f s xs) (hk : f.ct[k]? = some c) (hrs : w.ownsRow B 82 2 (.slice A rs.length cA) rs.length (layRp.rows rs)) :
    ∃ g, s.a3 = some ⟨g, 0, none⟩ ∧ GSt D F B w0 (w.setCell ⟨g, k * 2 + 1, none⟩ (.slice A rs.length cA)) (withR f k c rs) s (xs.set (k * 2 + 1) (.slice A rs.length cA)) ∧
    (∀ {e' : TypeId} {size' n' : Nat} {v' : Value} {ys' : List Value}, e' ≠ 63 → w.ownsRow B e' size' v' n' ys' → (w.setCell ⟨g, k * 2 + 1, none⟩ (.slice A rs.length cA)).ownsRow B e' size' v' n' ys') ∧ F ≠ g ∧ (∃ u, w.cell? ⟨g, k * 2 + 1, none⟩ = some u) ∧ ∀ i, w.frozen? ⟨g, i, none⟩ = false := by
  rcases h.ct.2 with ⟨e, e0⟩ | ⟨g, cap, cur, e, hBg, hg, _⟩
  · have := (List.getElem?_eq_some_iff.1 hk).1; omega
  · simp only [Value.slice.injEq, true_and] at e
    obtain ⟨ea, ec⟩ := e
    have hct := h.ct
    rw [ea] at hct
    obtain ⟨o1, hgr⟩ := hct.stored (k * 2 + 1) (.slice A rs.length cA)
    have hS : BelS (fun n => n = g) w (w.setCell ⟨g, k * 2 + 1, none⟩ (.slice A rs.length cA)) := BelS.setCell (S := fun n => n = g) (BelS.refl _ w) _ _ rfl
    have hlo := h.lo
    have hF : ¬ F = g := fun e => by
      have h1 := h.blk
      rw [e, hg] at h1
      injection h1 with h1
      injection h1 with _ h1 _
      exact absurd h1 (by decide)
    have k4 : ∀ {e' : TypeId} {size' n' : Nat} {v' : Value} {ys' : List Value}, e' ≠ 63 → w.ownsRow B e' size' v' n' ys' → (w.setCell ⟨g, k * 2 + 1, none⟩ (.slice A rs.length cA)).ownsRow B e' size' v' n' ys' := fun hne h5 => hS.own h5 (fun g' hg' e' => by
      subst e'
      exact own_ne h5 hg (fun x => hne x.symm) hg')
    have kk : ∀ {xs : List Value} {l : List Ct}, OCt false w B xs l → OCt false (w.setCell ⟨g, k * 2 + 1, none⟩ (.slice A rs.length cA)) B xs l := fun {xs l} => by
      induction l generalizing xs with
      | nil =>
        intro h
        cases xs with
        | nil => trivial
        | cons a ys => cases ys <;> exact h.elim
      | cons x l ih =>
        intro h
        match xs, h with
        | a :: b :: ys, h =>
          obtain ⟨⟨⟨A, k, e1, o1⟩, A', k', e2, o2, o3⟩, h4⟩ := h
          exact ⟨⟨⟨A, k, e1, k4 (by decide) o1⟩, A', k', e2, k4 (by decide) o2, o3⟩, ih h4⟩
    have hlen : (withR f k c rs).ct.length = f.ct.length := by unfold withR; simp
    have hcell : ∃ u, w.cell? ⟨g, k * 2 + 1, none⟩ = some u := by
      obtain ⟨a, b, e1, e2, -⟩ := h.oc.get hk
      have h2 : 2 * f.ct.length = xs.length := by have := h.ct.1; omega
      have hkl := (List.getElem?_eq_some_iff.1 hk).1
      exact ⟨b, by rw [hct.cellAt (k * 2 + 1) (by omega)]; exact e2⟩
    refine ⟨g, ea, ⟨?_, k4 (by decide) h.tr, k4 (by decide) h.bl, ?_, ?_, ?_, ?_, h.lo⟩, k4, hF, hcell, fun i => by simp [World.frozen?, hg]⟩
    · have h1 := hS.heap h.blk hF
      rw [h1]
      unfold mcells
      rw [hlen]; rfl
    · rw [hlen, ea]; exact o1
    · exact (kk h.oc).setRp ⟨A, cA, rfl, k4 (by decide) hrs⟩ hk
    · exact h.hp.belS hS (fun n hn e => by omega)
    · exact Ext.then_belS h.ext (fun n e => by omega) hS
theorem GSt.rpTwo {g : Nat} {ca cb : Ct} (h : GSt D F B w0 w f s xs) (ea : s.a3 = some ⟨g, 0, none⟩) (ha : f.ct[0]? = some ca) (hb : f.ct[1]? = some cb) : ∃ u1, w.cell? ⟨g, 1, none⟩ = some u1 ∧ ∃ u3, w.cell? ⟨g, 3, none⟩ = some u3 ∧ ∀ i, w.frozen? ⟨g, i, none⟩ = false := by
  obtain ⟨g1, e1, -, -, -, ⟨u1, p1⟩, fz⟩ := h.setRp ha (A := none) (cA := 0) (rs := []) (own_nil _ _ _ _)
  obtain ⟨g2, e2, -, -, -, ⟨u3, p3⟩, -⟩ := h.setRp hb (A := none) (cA := 0) (rs := []) (own_nil _ _ _ _)
  rw [ea] at e1 e2
  injection e1 with e1
  injection e1 with e1
  injection e2 with e2
  injection e2 with e2
  subst e1
  subst e2
  exact ⟨u1, p1, u3, p3, fz⟩
end
end Go.Proofs.YtlonpgbapiemcaaGreat
