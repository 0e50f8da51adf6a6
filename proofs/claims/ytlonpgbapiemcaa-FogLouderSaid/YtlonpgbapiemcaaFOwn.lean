/- The walk of Own. Printed by my gen_fown.py. -/
import Derived.Test.YtlonpgbapiemcaaG5
import Derived.Test.YtlonpgbapiemcaaFBas
import Derived.OwnWalk
import Derived.Deep.DeepCutAuto
import Derived.Deep.CutBlock
namespace Go.Proofs.Ytlonpgbapiemcaa
open Go Go.RowKit Go.Shelf
set_option linter.unusedVariables false
set_option linter.unusedSimpArgs false

/-- append of as many elements as there is room for. -/
theorem wpList_append_fit {P : Program} (w : World) {ops : Array Oper} {rest : List Oper} {o : Oper} {a : Act} {Q : Exit → Act → World → Prop} (hgd : o.guard = none) (s x : Operand) (t : TypeId)
    (ho : o.op = .call { callee := .builtin .append, args := #[s, x], argTypes := #[t, t] }) {e : TypeId} {size bytes : Nat} (E : ElemOK P t e size bytes) (base : Nat)
    (g n cap : Nat) (xs : List Value) (hs : a.eval s = .slice (some ⟨g, 0, none⟩) n cap) (hown : w.ownsRow base e size (.slice (some ⟨g, 0, none⟩) n cap) n xs) (A : Option Addr) (m c : Nat) (news : List Value) (hx : a.eval x = .slice A m c)
    (hl : news.length = m * size) (hr : Rd w A news) (h1 : ∀ u ∈ news, u.oneCell' = true) (hroom : n + m ≤ cap)
    (h : ∀ w', w'.ownsRow base e size (.slice (some ⟨g, 0, none⟩) (n + m) cap) (n + m) (xs ++ news) → w.grownBy w' (some g) → wpList P ops Q rest (a.put o.dst (.slice (some ⟨g, 0, none⟩) (n + m) cap)) w') : wpList P ops Q (o :: rest) a w := by
  obtain ⟨ht, ⟨i, z, hi, hz, hsize, hby, hzs⟩, hsz, hbp⟩ := E
  rcases A with _ | ad
  · have hn : news = [] := by
      rcases hr with h | ⟨b, off, h, _⟩
      · exact h
      · cases h
    subst hn
    have hm : m = 0 := by
      rcases Nat.eq_zero_or_pos m with h0 | h0
      · exact h0
      · have := Nat.mul_pos h0 hsz; simp at hl; omega
    subst hm
    refine wpList_plain hgd fun K hK => ?_
    have hrun : (Builtin.append_ #[t, t] o.type #[.slice (some ⟨g, 0, none⟩) n cap, .slice none 0 c]).run P w = .ok (.slice (some ⟨g, 0, none⟩) n cap) w := by
      have hnc : n ≤ cap := by omega
      simp [Builtin.append_, run_underlying ht, sizeOf, typeInfo, hi, Builtin.lenOf, Builtin.firstCells, hnc, storeCells]
    unfold Oper.wp
    simp [execOp, ho, resolve, invoke, builtin, hs, hx, hrun, Result.andThen]
    exact hK _ _ (h w (by simpa using hown) (World.grownBy.refl w _))
  · have hcells : ∀ j u, news[j]? = some u → w.cell? (ad.add j) = some u := by
      intro j u hu
      rcases hr with h | ⟨b, off, h, hc⟩
      · subst h; simp at hu
      · cases h
        rw [Addr.add_lit]
        exact hc j u hu
    exact wpList_append_fits w hgd s x t ho base e i size ht hi hsize g n cap xs hs hown ad m c news hx hl hcells h1 hroom h
/-- The two cells of a cart whose rows are the call's own (of reports no room is left, where the mark says so). -/
def OC (fl : Bool) (w : World) (B : Nat) (a b : Value) (x : Ct) : Prop := (∃ A k, a = .slice A x.st.length k ∧ w.ownsRow B 3 1 (.slice A x.st.length k) x.st.length (x.st.map (.int .i64))) ∧ ∃ A k, b = .slice A x.rp.length k ∧ w.ownsRow B 66 2 (.slice A x.rp.length k) x.rp.length (layRp.rows x.rp) ∧ (fl = true → k = x.rp.length)
theorem OC.ext {fl : Bool} {w w' : World} {B : Nat} {a b : Value} {x : Ct} (h : OC fl w B a b x) (hx : Ext w w') : OC fl w' B a b x := by
  obtain ⟨⟨A, k, e1, h1⟩, A', k', e2, h2, h3⟩ := h
  exact ⟨⟨A, k, e1, own_below h1 hx⟩, A', k', e2, own_below h2 hx, h3⟩
theorem OC.keep {fl : Bool} {S : Nat → Prop} {w w' : World} {B : Nat} {a b : Value} {x : Ct} (h : OC fl w B a b x) (hb : BelS S w w') (hS : ∀ g, S g → ∃ cs T, w.heap[g]? = some (.cells cs T (0, 0)) ∧ T ≠ 3 ∧ T ≠ 66) : OC fl w' B a b x := by
  obtain ⟨⟨A, k, e1, h1⟩, A', k', e2, h2, h3⟩ := h
  exact ⟨⟨A, k, e1, hb.own h1 (fun g hg hs => by obtain ⟨cs, T, hh, hne, _⟩ := hS g hs; exact own_ne h1 hh hne hg)⟩, A', k', e2, hb.own h2 (fun g hg hs => by obtain ⟨cs, T, hh, _, hne⟩ := hS g hs; exact own_ne h2 hh hne hg), h3⟩
def OCt (fl : Bool) (w : World) (B : Nat) : List Value → List Ct → Prop
  | [], [] => True
  | a :: b :: xs, x :: l => OC fl w B a b x ∧ OCt fl w B xs l
  | _, _ => False
theorem OCt.keep {S : Nat → Prop} {fl : Bool} {w w' : World} {B : Nat} (hb : BelS S w w') (hS : ∀ g, S g → ∃ cs T, w.heap[g]? = some (.cells cs T (0, 0)) ∧ T ≠ 3 ∧ T ≠ 66) : ∀ {xs : List Value} {l : List Ct}, OCt fl w B xs l → OCt fl w' B xs l
  | [], [], _ => trivial
  | a :: b :: xs, x :: l, h => ⟨h.1.keep hb hS, OCt.keep hb hS h.2⟩
  | [_], _, h => by cases ‹List Ct› <;> exact h.elim
theorem OCt.ext {fl : Bool} {w w' : World} {B : Nat} (hx : Ext w w') : ∀ {xs : List Value} {l : List Ct}, OCt fl w B xs l → OCt fl w' B xs l
  | [], [], _ => trivial
  | a :: b :: xs, x :: l, h => ⟨h.1.ext hx, OCt.ext hx h.2⟩
  | [_], _, h => by cases ‹List Ct› <;> exact h.elim
theorem OCt.snoc {fl : Bool} {w : World} {B : Nat} {a b : Value} {x : Ct} (hc : OC fl w B a b x) : ∀ {xs : List Value} {l : List Ct}, OCt fl w B xs l → OCt fl w B (xs ++ [a, b]) (l ++ [x])
  | [], [], _ => ⟨hc, trivial⟩
  | _ :: _ :: xs, _ :: l, h => ⟨h.1, OCt.snoc hc h.2⟩
  | [_], _, h => by cases ‹List Ct› <;> exact h.elim
theorem OCt.toC {fl : Bool} {w : World} {B : Nat} : ∀ {xs : List Value} {l : List Ct}, OCt fl w B xs l → CtC w xs l
  | [], [], _ => trivial
  | a :: b :: xs, x :: l, h => by
    obtain ⟨⟨⟨A, k, e1, h1⟩, A', k', e2, h2, -⟩, h3⟩ := h
    exact ⟨⟨A, k, e1, Rd.of_own h1, own_cap h1⟩, ⟨A', k', e2, Rd.of_own h2, own_cap h2⟩, OCt.toC h3⟩
  | [_], _, h => by cases ‹List Ct› <;> exact h.elim
/-- A fog whose rows are the call's own. -/
def OwnF (w : World) (v : Value) (f : Fg) : Prop := ∃ B g1 q1 g2 q2 D kd xs, v = fval f (some ⟨g1, 0, none⟩) q1 (some ⟨g2, 0, none⟩) q2 D kd ∧ w.ownsRow B 50 2 (.slice (some ⟨g1, 0, none⟩) f.tr.length q1) f.tr.length (layPr.rows f.tr) ∧ w.ownsRow B 41 3 (.slice (some ⟨g2, 0, none⟩) f.bl.length q2) f.bl.length (layBl.rows f.bl) ∧ w.ownsRow B 53 2 (.slice D f.ct.length kd) f.ct.length xs ∧ OCt true w B xs f.ct
theorem OwnF.fg {w : World} {v : Value} {f : Fg} (h : OwnF w v f) : FgR w v f := by
  obtain ⟨B, g1, q1, g2, q2, D, kd, xs, rfl, h1, h2, h3, h4⟩ := h
  exact ⟨_, _, _, _, _, _, rfl, Rd.of_own h1, Rd.of_own h2, ⟨xs, Rd.of_own h3, h4.toC⟩, own_cap h1, own_cap h2, own_cap h3⟩
theorem OwnF.ext {w w' : World} {v : Value} {f : Fg} (h : OwnF w v f) (hx : Ext w w') : OwnF w' v f := by
  obtain ⟨B, g1, q1, g2, q2, D, kd, xs, rfl, h1, h2, h3, h4⟩ := h
  exact ⟨B, g1, q1, g2, q2, D, kd, xs, rfl, own_below h1 hx, own_below h2 hx, own_below h3 hx, h4.ext hx⟩
/-- Blocks of no type that a fog's rows have. -/
def FogB (w : World) (S : Nat → Prop) : Prop := ∀ g, S g → ∃ cs T, w.heap[g]? = some (.cells cs T (0, 0)) ∧ T ≠ 50 ∧ T ≠ 41 ∧ T ≠ 53 ∧ T ≠ 3 ∧ T ≠ 66
theorem OwnF.keep {S : Nat → Prop} {w w' : World} {v : Value} {f : Fg} (h : OwnF w v f) (hb : BelS S w w') (hS : FogB w S) : OwnF w' v f := by
  obtain ⟨B, g1, q1, g2, q2, D, kd, xs, rfl, h1, h2, h3, h4⟩ := h
  refine ⟨B, g1, q1, g2, q2, D, kd, xs, rfl, hb.own h1 (fun g hg hs => ?_), hb.own h2 (fun g hg hs => ?_), hb.own h3 (fun g hg hs => ?_), OCt.keep hb (fun g hg => ?_) h4⟩
  · obtain ⟨cs, T, hh, n1, n2, n3, n4, n5⟩ := hS g hs; exact own_ne h1 hh n1 hg
  · obtain ⟨cs, T, hh, n1, n2, n3, n4, n5⟩ := hS g hs; exact own_ne h2 hh n2 hg
  · obtain ⟨cs, T, hh, n1, n2, n3, n4, n5⟩ := hS g hs; exact own_ne h3 hh n3 hg
  · obtain ⟨cs, T, hh, n1, n2, n3, n4, n5⟩ := hS g hg; exact ⟨cs, T, hh, n4, n5⟩
def OwnPost (w : World) (f : Fg) (e : Ending) (w' : World) : Prop := ∃ v, e = .returned v ∧ Ext w w' ∧ OwnF w' v f
/-- A fog whose rows are the call's own, from a block on. -/
def OwnFB (w : World) (B : Nat) (v : Value) (f : Fg) : Prop := ∃ g1 q1 g2 q2 D kd xs, v = fval f (some ⟨g1, 0, none⟩) q1 (some ⟨g2, 0, none⟩) q2 D kd ∧ w.ownsRow B 50 2 (.slice (some ⟨g1, 0, none⟩) f.tr.length q1) f.tr.length (layPr.rows f.tr) ∧ w.ownsRow B 41 3 (.slice (some ⟨g2, 0, none⟩) f.bl.length q2) f.bl.length (layBl.rows f.bl) ∧ w.ownsRow B 53 2 (.slice D f.ct.length kd) f.ct.length xs ∧ OCt true w B xs f.ct
def OwnPostB (w : World) (f : Fg) (e : Ending) (w' : World) : Prop := ∃ v B, e = .returned v ∧ Ext w w' ∧ w.heap.size ≤ B ∧ OwnFB w' B v f

end Go.Proofs.Ytlonpgbapiemcaa
