/- The walk of Own. Printed by my gen_fown.py. -/
import Derived.Test.YtlonpgbapiemcaaGreatG5
import Derived.Test.YtlonpgbapiemcaaGreatFBas
import Derived.OwnWalk
import Derived.Deep.DeepCutAuto
import Derived.Deep.CutBlock
namespace Go.Proofs.YtlonpgbapiemcaaGreat
open Go Go.RowKit Go.Shelf
set_option linter.unusedVariables false
set_option linter.unusedSimpArgs false

/-- append of as many elements as there is room for. -/
theorem wpList_append_fit {P : Program} (w : World) {ops : Array Oper} {rest : List Oper} {o : Oper} {a : Act} {Q : Exit → Act → World → Prop} (hgd : o.guard = none) (s x : Operand) (t : TypeId)
    (ho : o.op = .call { callee := .builtin .append, args := #[s, x], argTypes := #[t, t] }) {e : TypeId} {size bytes : Nat} (E : ElemOK P t e size bytes) (base : Nat)
    (g n cap : Nat) (xs : List Value) (hs : a.eval s = .slice (some ⟨g, 0, none⟩) n cap) (hown : w.ownsRow base e size (.slice (some ⟨g, 0, none⟩) n cap) n xs) (A : Option Addr) (m c : Nat) (news : List Value) (hx : a.eval x = .slice A m c)
    (hl : news.length = m * size) (hr : Rd w A news) (h1 : ∀ u ∈ news, u.oneCell' = true) (hroom : n + m ≤ cap)
    (h : ∀ w', w'.ownsRow base e size (.slice (some ⟨g, 0, none⟩) (n + m) cap) (n + m) (xs ++ news) → w.grownBy w' (some g) → wpList P ops Q rest (a.put o.dst (.slice (some ⟨g, 0, none⟩) (n + m) cap)) w') : wpList P ops Q (o :: rest) a w := by
  obtain ⟨ht, ⟨i, z, hi, hz, hsize, hby, hzs⟩, hsz, hbp⟩ := E
  rcases A with _ | ad
  · have hn : news = [] := by
      rcases hr with h | ⟨b, off, h, _⟩
      · exact h
      · cases h
    subst hn
    have hm : m = 0 := by
      rcases Nat.eq_zero_or_pos m with h0 | h0
      · exact h0
      · have := Nat.mul_pos h0 hsz; simp at hl; omega
    subst hm
    refine wpList_plain hgd fun K hK => ?_
    have hrun : (Builtin.append_ #[t, t] o.type #[.slice (some ⟨g, 0, none⟩) n cap, .slice none 0 c]).run P w = .ok (.slice (some ⟨g, 0, none⟩) n cap) w := by
      have hnc : n ≤ cap := by omega
      simp [Builtin.append_, run_underlying ht, sizeOf, typeInfo, hi, Builtin.lenOf, Builtin.firstCells, hnc, storeCells]
    unfold Oper.wp
    simp [execOp, ho, resolve, invoke, builtin, hs, hx, hrun, Result.andThen]
    exact hK _ _ (h w (by simpa using hown) (World.grownBy.refl w _))
  · have hcells : ∀ j u, news[j]? = some u → w.cell? (ad.add j) = some u := by
      intro j u hu
      rcases hr with h | ⟨b, off, h, hc⟩
      · subst h; simp at hu
      · cases h
        rw [Addr.add_lit]
        exact hc j u hu
    exact wpList_append_fits w hgd s x t ho base e i size ht hi hsize g n cap xs hs hown ad m c news hx hl hcells h1 hroom h
set_option maxHeartbeats 1000000 in
theorem dup_full (A : Option Addr) (c : Nat) (l : List Rp) (w : World) (hA : Reps w A l) (hl : l.length * 16 ≤ 140737488355328) :
    Calls Tryz.prog 134 #[.slice A l.length c] w fun e w' => ∃ g, e = .returned (.slice (some ⟨g, 0, none⟩) l.length l.length) ∧ w'.ownsRow w.heap.size 82 2 (.slice (some ⟨g, 0, none⟩) l.length l.length) l.length (layRp.rows l) ∧ Ext w w' := by
  obtain ⟨_, ⟨i, z, hi, hz, hsize, hby, hzs⟩, _, _⟩ := elem_rep
  have hm : l.length ≤ maxLen := by simp only [maxLen]; omega
  have hb2 : i.bytes * l.length ≤ 281474976710656 := by rw [hby]; omega
  have H2 := hid hm
  have H3 := hid hb2
  have H4 := hid hi
  have H5 := hid hz
  have H6 := hid hsize
  have HL : Hid ((layRp.rows l).length = l.length * 2) := hid (layRp.rows_len l)
  clear hm hb2 hi hz hsize hby hzs
  go_enter Tryz.func134, Tryz.ntmps134
  go_wp2_with (at_make; refine wpList_make_own _ rfl _ _ 60 rfl w.heap.size 82 i z 2 Tryz.underlying60 H4.out H5.out H6.out .i64 .i64 _ l.length rfl rfl rfl H3.out H2.out (Nat.le_refl _) ?_)
  intro w1 hown1 hgr1
  have hx1 : Ext w w1 := Ext.grown (Ext.refl w) hgr1 (fun k e => by cases e)
  have H1 := hid hown1
  have hsz := hx1.size
  clear hown1 hgr1
  go_wp2_with (at_builtin; refine wpList_append_fit _ rfl _ _ 60 rfl elem_rep w.heap.size _ 0 _ [] rfl H1.out A l.length c (layRp.rows l) rfl HL.out (Rd.ext hA hx1) (layRp.rows_one l) (by omega) ?_)
  intro w5 hown5 hgr5
  have hx5 : Ext w w5 := Ext.grown hx1 hgr5 (fun k e => (H1.out.lt k e).1)
  have H7 : Hid (w5.ownsRow w.heap.size 82 2 (.slice (some ⟨w.heap.size, 0, none⟩) l.length l.length) l.length (layRp.rows l)) := by
    unfold Hid; simpa using hown5
  have H8 := hid hx5
  clear hown5 hgr5 hx5 hx1
  go_wp2
  go_ret
  exact ⟨_, by simp, H7.out, H8.out⟩

/-- The two cells of a cart whose rows are the call's own (of reports no room is left, where the mark says so). -/
def OC (fl : Bool) (w : World) (B : Nat) (a b : Value) (x : Ct) : Prop := (∃ A k, a = .slice A x.st.length k ∧ w.ownsRow B 3 1 (.slice A x.st.length k) x.st.length (x.st.map (.int .i64))) ∧ ∃ A k, b = .slice A x.rp.length k ∧ w.ownsRow B 82 2 (.slice A x.rp.length k) x.rp.length (layRp.rows x.rp) ∧ (fl = true → k = x.rp.length)
theorem OC.ext {fl : Bool} {w w' : World} {B : Nat} {a b : Value} {x : Ct} (h : OC fl w B a b x) (hx : Ext w w') : OC fl w' B a b x := by
  obtain ⟨⟨A, k, e1, h1⟩, A', k', e2, h2, h3⟩ := h
  exact ⟨⟨A, k, e1, own_below h1 hx⟩, A', k', e2, own_below h2 hx, h3⟩
theorem OC.keep {fl : Bool} {S : Nat → Prop} {w w' : World} {B : Nat} {a b : Value} {x : Ct} (h : OC fl w B a b x) (hb : BelS S w w') (hS : ∀ g, S g → ∃ cs T, w.heap[g]? = some (.cells cs T (0, 0)) ∧ T ≠ 3 ∧ T ≠ 82) : OC fl w' B a b x := by
  obtain ⟨⟨A, k, e1, h1⟩, A', k', e2, h2, h3⟩ := h
  exact ⟨⟨A, k, e1, hb.own h1 (fun g hg hs => by obtain ⟨cs, T, hh, hne, _⟩ := hS g hs; exact own_ne h1 hh hne hg)⟩, A', k', e2, hb.own h2 (fun g hg hs => by obtain ⟨cs, T, hh, _, hne⟩ := hS g hs; exact own_ne h2 hh hne hg), h3⟩
def OCt (fl : Bool) (w : World) (B : Nat) : List Value → List Ct → Prop
  | [], [] => True
  | a :: b :: xs, x :: l => OC fl w B a b x ∧ OCt fl w B xs l
  | _, _ => False
theorem OCt.keep {S : Nat → Prop} {fl : Bool} {w w' : World} {B : Nat} (hb : BelS S w w') (hS : ∀ g, S g → ∃ cs T, w.heap[g]? = some (.cells cs T (0, 0)) ∧ T ≠ 3 ∧ T ≠ 82) : ∀ {xs : List Value} {l : List Ct}, OCt fl w B xs l → OCt fl w' B xs l
  | [], [], _ => trivial
  | a :: b :: xs, x :: l, h => ⟨h.1.keep hb hS, OCt.keep hb hS h.2⟩
  | [_], _, h => by cases ‹List Ct› <;> exact h.elim
theorem OCt.ext {fl : Bool} {w w' : World} {B : Nat} (hx : Ext w w') : ∀ {xs : List Value} {l : List Ct}, OCt fl w B xs l → OCt fl w' B xs l
  | [], [], _ => trivial
  | a :: b :: xs, x :: l, h => ⟨h.1.ext hx, OCt.ext hx h.2⟩
  | [_], _, h => by cases ‹List Ct› <;> exact h.elim
theorem OCt.snoc {fl : Bool} {w : World} {B : Nat} {a b : Value} {x : Ct} (hc : OC fl w B a b x) : ∀ {xs : List Value} {l : List Ct}, OCt fl w B xs l → OCt fl w B (xs ++ [a, b]) (l ++ [x])
  | [], [], _ => ⟨hc, trivial⟩
  | _ :: _ :: xs, _ :: l, h => ⟨h.1, OCt.snoc hc h.2⟩
  | [_], _, h => by cases ‹List Ct› <;> exact h.elim
theorem OCt.toC {fl : Bool} {w : World} {B : Nat} : ∀ {xs : List Value} {l : List Ct}, OCt fl w B xs l → CtC w xs l
  | [], [], _ => trivial
  | a :: b :: xs, x :: l, h => by
    obtain ⟨⟨⟨A, k, e1, h1⟩, A', k', e2, h2, -⟩, h3⟩ := h
    exact ⟨⟨A, k, e1, Rd.of_own h1, own_cap h1⟩, ⟨A', k', e2, Rd.of_own h2, own_cap h2⟩, OCt.toC h3⟩
  | [_], _, h => by cases ‹List Ct› <;> exact h.elim
/-- A fog whose rows are the call's own. -/
def OwnF (w : World) (v : Value) (f : Fg) : Prop := ∃ B g1 q1 g2 q2 D kd xs, v = fval f (some ⟨g1, 0, none⟩) q1 (some ⟨g2, 0, none⟩) q2 D kd ∧ w.ownsRow B 78 2 (.slice (some ⟨g1, 0, none⟩) f.tr.length q1) f.tr.length (layPr.rows f.tr) ∧ w.ownsRow B 39 3 (.slice (some ⟨g2, 0, none⟩) f.bl.length q2) f.bl.length (layBl.rows f.bl) ∧ w.ownsRow B 63 2 (.slice D f.ct.length kd) f.ct.length xs ∧ OCt true w B xs f.ct
theorem OwnF.fg {w : World} {v : Value} {f : Fg} (h : OwnF w v f) : FgR w v f := by
  obtain ⟨B, g1, q1, g2, q2, D, kd, xs, rfl, h1, h2, h3, h4⟩ := h
  exact ⟨_, _, _, _, _, _, rfl, Rd.of_own h1, Rd.of_own h2, ⟨xs, Rd.of_own h3, h4.toC⟩, own_cap h1, own_cap h2, own_cap h3⟩
theorem OwnF.ext {w w' : World} {v : Value} {f : Fg} (h : OwnF w v f) (hx : Ext w w') : OwnF w' v f := by
  obtain ⟨B, g1, q1, g2, q2, D, kd, xs, rfl, h1, h2, h3, h4⟩ := h
  exact ⟨B, g1, q1, g2, q2, D, kd, xs, rfl, own_below h1 hx, own_below h2 hx, own_below h3 hx, h4.ext hx⟩
/-- Blocks of no type that a fog's rows have. -/
def FogB (w : World) (S : Nat → Prop) : Prop := ∀ g, S g → ∃ cs T, w.heap[g]? = some (.cells cs T (0, 0)) ∧ T ≠ 78 ∧ T ≠ 39 ∧ T ≠ 63 ∧ T ≠ 3 ∧ T ≠ 82
theorem OwnF.keep {S : Nat → Prop} {w w' : World} {v : Value} {f : Fg} (h : OwnF w v f) (hb : BelS S w w') (hS : FogB w S) : OwnF w' v f := by
  obtain ⟨B, g1, q1, g2, q2, D, kd, xs, rfl, h1, h2, h3, h4⟩ := h
  refine ⟨B, g1, q1, g2, q2, D, kd, xs, rfl, hb.own h1 (fun g hg hs => ?_), hb.own h2 (fun g hg hs => ?_), hb.own h3 (fun g hg hs => ?_), OCt.keep hb (fun g hg => ?_) h4⟩
  · obtain ⟨cs, T, hh, n1, n2, n3, n4, n5⟩ := hS g hs; exact own_ne h1 hh n1 hg
  · obtain ⟨cs, T, hh, n1, n2, n3, n4, n5⟩ := hS g hs; exact own_ne h2 hh n2 hg
  · obtain ⟨cs, T, hh, n1, n2, n3, n4, n5⟩ := hS g hs; exact own_ne h3 hh n3 hg
  · obtain ⟨cs, T, hh, n1, n2, n3, n4, n5⟩ := hS g hg; exact ⟨cs, T, hh, n4, n5⟩
def OwnPost (w : World) (f : Fg) (e : Ending) (w' : World) : Prop := ∃ v, e = .returned v ∧ Ext w w' ∧ OwnF w' v f
/-- A fog whose rows are the call's own, from a block on. -/
def OwnFB (w : World) (B : Nat) (v : Value) (f : Fg) : Prop := ∃ g1 q1 g2 q2 D kd xs, v = fval f (some ⟨g1, 0, none⟩) q1 (some ⟨g2, 0, none⟩) q2 D kd ∧ w.ownsRow B 78 2 (.slice (some ⟨g1, 0, none⟩) f.tr.length q1) f.tr.length (layPr.rows f.tr) ∧ w.ownsRow B 39 3 (.slice (some ⟨g2, 0, none⟩) f.bl.length q2) f.bl.length (layBl.rows f.bl) ∧ w.ownsRow B 63 2 (.slice D f.ct.length kd) f.ct.length xs ∧ OCt true w B xs f.ct
def OwnPostB (w : World) (f : Fg) (e : Ending) (w' : World) : Prop := ∃ v B, e = .returned v ∧ Ext w w' ∧ w.heap.size ≤ B ∧ OwnFB w' B v f

set_option maxRecDepth 100000 in
set_option maxHeartbeats 1000000 in
theorem own_at_ (v : Value) (f : Fg) (w : World) (hf : FgR w v f) (hs : f.sized) :
    Calls Tryz.prog 38 #[v] w (OwnPostB w f) := by
  obtain ⟨a1, c1, a2, c2, a3, c3, rfl, hT, hB, hC, -⟩ := hf
  have hz := hs
  obtain ⟨z1, z2, z3, z4⟩ := hz
  have Z4 := hid z4
  clear z4
  obtain ⟨W0, hW0⟩ : ∃ W0, (w.alloc (.cells #[.int .i64 f.pl, .int .i64 f.mi, .slice a1 f.tr.length c1, .slice a2 f.bl.length c2, .slice a3 f.ct.length c3] 29)).alloc (.cells #[.int .i64 0, .int .i64 0, .slice none 0 0, .slice none 0 0, .slice none 0 0] 29) = W0 := ⟨_, rfl⟩
  have hx0 : Ext w W0 := by rw [← hW0]; exact (Ext.alloc (Ext.refl w) _).alloc _
  have sz0 : W0.heap.size = w.heap.size + 2 := by rw [← hW0]; simp
  have G0 : Hid (W0.heap[w.heap.size]? = some (.cells #[.int .i64 f.pl, .int .i64 f.mi, .slice a1 f.tr.length c1, .slice a2 f.bl.length c2, .slice a3 f.ct.length c3] 29 (0, 0))) := by
    unfold Hid; rw [← hW0]
    exact (Below.block (Ext.alloc (Ext.refl _) _) _ (by simp)).trans (heap_alloc_new w _)
  have G2 : Hid (W0.heap[(w.heap.size + 1)]? = some (.cells #[.int .i64 0, .int .i64 0, .slice none 0 0, .slice none 0 0, .slice none 0 0] 29 (0, 0))) := by
    unfold Hid; rw [← hW0]
    have := heap_alloc_new (w.alloc (.cells #[.int .i64 f.pl, .int .i64 f.mi, .slice a1 f.tr.length c1, .slice a2 f.bl.length c2, .slice a3 f.ct.length c3] 29)) (.cells #[.int .i64 0, .int .i64 0, .slice none 0 0, .slice none 0 0, .slice none 0 0] 29)
    simpa using this
  unfold fval
  have p0 := block_cell (i := 0) G0.out
  have p1 := block_cell (i := 1) G0.out
  have p2 := block_cell (i := 2) G0.out
  have p3 := block_cell (i := 3) G0.out
  have p4 := block_cell (i := 4) G0.out
  simp only [List.getElem?_toArray, List.getElem?_cons_zero, List.getElem?_cons_succ] at p0 p1 p2 p3 p4
  have FX : Hid (∀ w', Ext W0 w' → w'.cell? ⟨w.heap.size, 0, none⟩ = some (.int .i64 f.pl) ∧ w'.cell? ⟨w.heap.size, 1, none⟩ = some (.int .i64 f.mi) ∧ w'.cell? ⟨w.heap.size, 2, none⟩ = some (.slice a1 f.tr.length c1) ∧ w'.cell? ⟨w.heap.size, 3, none⟩ = some (.slice a2 f.bl.length c2)) := fun w' h => ⟨h.cell p0, h.cell p1, h.cell p2, h.cell p3⟩
  clear p0 p1 p2 p3 p4
  go_enter Tryz.func38, Tryz.ntmps38
  go_wp2_with fail
  try rw [hW0]
  clear hW0
  refine wp_region_shut_tail Ext (fun w' => Ext W0 w') (fun
    | 9 => some (fun v w' => ∃ g q, v = .slice (some ⟨g, 0, none⟩) f.tr.length q ∧ w'.ownsRow (w.heap.size + 2) 78 2 (.slice (some ⟨g, 0, none⟩) f.tr.length q) f.tr.length (layPr.rows f.tr))
    | 13 => some (fun v w' => ∃ g q, v = .slice (some ⟨g, 0, none⟩) f.bl.length q ∧ w'.ownsRow (w.heap.size + 2) 39 3 (.slice (some ⟨g, 0, none⟩) f.bl.length q) f.bl.length (layBl.rows f.bl))
    | 15 => some (fun v w' => ∃ B, v = .pointer (some ⟨B, 0, none⟩) ∧ (w.heap.size + 2) ≤ B ∧ w'.heap[B]? = some (.cells #[.int .i64 0, .int .i64 0, .slice none 0 0, .slice none 0 0, .slice none 0 0] 29 (0, 0)))
    | _ => none) 16 (by kernel_rfl) (by kernel_rfl) (fun _ _ h k => h.trans k) ?hT (Ext.drew (Ext.refl W0)) ?_
  case hT =>
    intro i R hR
    match i, hR with
    | 9, hR => cases hR; exact fun _ _ _ ⟨g, q, h1, h2⟩ k => ⟨g, q, h1, own_below h2 k⟩
    | 13, hR => cases hR; exact fun _ _ _ ⟨g, q, h1, h2⟩ k => ⟨g, q, h1, own_below h2 k⟩
    | 15, hR => cases hR; exact fun _ _ _ ⟨B, h1, h2, h3⟩ k => ⟨B, h1, h2, (Below.block k _ (Array.getElem?_eq_some_iff.1 h3).1).trans h3⟩
  refine wM_val ?ua0 rfl rfl Ext.refl (fun w' hD => ?ha0) (fun pha0 => ?na0)
  case ha0 =>
    obtain ⟨d0, d1, d2, d3⟩ := FX.out w' hD.1
    go_simp; rfl
  simp only [Act.put, List.setIfInBounds_toArray, List.set_cons_succ, List.set_cons_zero, Nat.reduceAdd]
  refine wM_val ?ua1 rfl rfl Ext.refl (fun w' hD => ?ha1) (fun pha1 => ?na1)
  case ha1 =>
    obtain ⟨d0, d1, d2, d3⟩ := FX.out w' hD.1
    go_simp; rfl
  simp only [Act.put, List.setIfInBounds_toArray, List.set_cons_succ, List.set_cons_zero, Nat.reduceAdd]
  refine wM_val ?ua2 rfl rfl Ext.refl (fun w' hD => ?ha2) (fun pha2 => ?na2)
  case ha2 =>
    obtain ⟨d0, d1, d2, d3⟩ := FX.out w' hD.1
    go_simp; rfl
  simp only [Act.put, List.setIfInBounds_toArray, List.set_cons_succ, List.set_cons_zero, Nat.reduceAdd]
  refine wM_val ?ua3 rfl rfl Ext.refl (fun w' hD => ?ha3) (fun pha3 => ?na3)
  case ha3 =>
    obtain ⟨d0, d1, d2, d3⟩ := FX.out w' hD.1
    go_simp; rfl
  simp only [Act.put, List.setIfInBounds_toArray, List.set_cons_succ, List.set_cons_zero, Nat.reduceAdd]
  refine wM_val ?ua4 rfl rfl Ext.refl (fun w' hD => ?ha4) (fun pha4 => ?na4)
  case ha4 =>
    obtain ⟨d0, d1, d2, d3⟩ := FX.out w' hD.1
    go_simp; rfl
  simp only [Act.put, List.setIfInBounds_toArray, List.set_cons_succ, List.set_cons_zero, Nat.reduceAdd]
  refine wM_val ?ua5 rfl rfl Ext.refl (fun w' hD => ?ha5) (fun pha5 => ?na5)
  case ha5 =>
    obtain ⟨d0, d1, d2, d3⟩ := FX.out w' hD.1
    go_simp; rfl
  simp only [Act.put, List.setIfInBounds_toArray, List.set_cons_succ, List.set_cons_zero, Nat.reduceAdd]
  refine wM_val ?ua6 rfl rfl Ext.refl (fun w' hD => ?ha6) (fun pha6 => ?na6)
  case ha6 =>
    obtain ⟨d0, d1, d2, d3⟩ := FX.out w' hD.1
    go_simp; rfl
  simp only [Act.put, List.setIfInBounds_toArray, List.set_cons_succ, List.set_cons_zero, Nat.reduceAdd]
  refine wM_val ?ua7 rfl rfl Ext.refl (fun w' hD => ?ha7) (fun pha7 => ?na7)
  case ha7 =>
    obtain ⟨d0, d1, d2, d3⟩ := FX.out w' hD.1
    go_simp; rfl
  simp only [Act.put, List.setIfInBounds_toArray, List.set_cons_succ, List.set_cons_zero, Nat.reduceAdd]
  refine wM_val ?ua8 rfl rfl Ext.refl (fun w' hD => ?ha8) (fun pha8 => ?na8)
  case ha8 =>
    obtain ⟨d0, d1, d2, d3⟩ := FX.out w' hD.1
    go_simp; rfl
  simp only [Act.put, List.setIfInBounds_toArray, List.set_cons_succ, List.set_cons_zero, Nat.reduceAdd]
  refine wM_op _ rfl rfl (opens_call ?fa9 ?ga9 (fun w' hD => ?ha9) (fun w' hD => ?ca9)) (fun v9 hv9 => ?na9)
  case ha9 => go_simp; constructor <;> rfl
  case ca9 =>
    refine (dup_pair a1 c1 f.tr w' (Rows.ext hT (hx0.trans hD.1)) (by omega)).mono ?_
    rintro e w2 ⟨g, q, rfl, ho, hb⟩
    exact ⟨_, rfl, hb, g, q, rfl, own_base ho (by have := hD.1.size; omega)⟩
  obtain ⟨_, -, -, g1, q1, rfl, -⟩ := hv9
  simp only [Act.put, List.setIfInBounds_toArray, List.set_cons_succ, List.set_cons_zero, Nat.reduceAdd]
  refine wM_val ?ua10 rfl rfl Ext.refl (fun w' hD => ?ha10) (fun pha10 => ?na10)
  case ha10 =>
    obtain ⟨d0, d1, d2, d3⟩ := FX.out w' hD.1
    go_simp; rfl
  simp only [Act.put, List.setIfInBounds_toArray, List.set_cons_succ, List.set_cons_zero, Nat.reduceAdd]
  refine wM_val ?ua11 rfl rfl Ext.refl (fun w' hD => ?ha11) (fun pha11 => ?na11)
  case ha11 =>
    obtain ⟨d0, d1, d2, d3⟩ := FX.out w' hD.1
    go_simp; rfl
  simp only [Act.put, List.setIfInBounds_toArray, List.set_cons_succ, List.set_cons_zero, Nat.reduceAdd]
  refine wM_val ?ua12 rfl rfl Ext.refl (fun w' hD => ?ha12) (fun pha12 => ?na12)
  case ha12 =>
    obtain ⟨d0, d1, d2, d3⟩ := FX.out w' hD.1
    go_simp; rfl
  simp only [Act.put, List.setIfInBounds_toArray, List.set_cons_succ, List.set_cons_zero, Nat.reduceAdd]
  refine wM_op _ rfl rfl (opens_call ?fa13 ?ga13 (fun w' hD => ?ha13) (fun w' hD => ?ca13)) (fun v13 hv13 => ?na13)
  case ha13 => go_simp; constructor <;> rfl
  case ca13 =>
    refine (dup_blast a2 c2 f.bl w' (Rows.ext hB (hx0.trans hD.1)) (by omega)).mono ?_
    rintro e w2 ⟨g, q, rfl, ho, hb⟩
    exact ⟨_, rfl, hb, g, q, rfl, own_base ho (by have := hD.1.size; omega)⟩
  obtain ⟨_, -, -, g2, q2, rfl, -⟩ := hv13
  simp only [Act.put, List.setIfInBounds_toArray, List.set_cons_succ, List.set_cons_zero, Nat.reduceAdd]
  refine wM_val ?ua14 rfl rfl Ext.refl (fun w' hD => ?ha14) (fun pha14 => ?na14)
  case ha14 =>
    obtain ⟨d0, d1, d2, d3⟩ := FX.out w' hD.1
    go_simp; rfl
  simp only [Act.put, List.setIfInBounds_toArray, List.set_cons_succ, List.set_cons_zero, Nat.reduceAdd]
  refine wM_op _ rfl rfl (opens_val (fun w' hD => ?ha15)) (fun v15 hv15 => ?na15)
  case ha15 =>
    refine ⟨.pointer (some ⟨w'.heap.size, 0, none⟩), w'.alloc (.cells #[.int .i64 0, .int .i64 0, .slice none 0 0, .slice none 0 0, .slice none 0 0] 29), ?_, Ext.alloc (Ext.refl _) _, ⟨w'.heap.size, rfl, by have := hD.1.size; omega, heap_alloc_new w' _⟩⟩
    go_simp
  obtain ⟨_, _, _, B3, rfl, _, _⟩ := hv15
  simp only [Act.put, List.setIfInBounds_toArray, List.set_cons_succ, List.set_cons_zero, Nat.reduceAdd]
  refine wM_nil ?_
  intro w9 hw9 hF9
  obtain ⟨-, h1, q1', e1, o1⟩ := hF9 9
  cases e1
  obtain ⟨-, h2, q2', e2, o2⟩ := hF9 13
  cases e2
  obtain ⟨-, B', e3, hB3, g3⟩ := hF9 15
  cases e3
  clear hF9 FX
  simp only [List.drop_succ_cons, List.drop_zero]
  have G3 := hid g3
  have GS := hid ((Below.block hw9 _ (by omega)).trans G0.out)
  have G29 := hid ((Below.block hw9 _ (by omega)).trans G2.out)
  have hx9 := hx0.trans hw9
  have sz9 : (w.heap.size + 2) ≤ w9.heap.size := by have := hw9.size; omega
  have O1 := hid o1
  have O2 := hid o2
  clear o1 o2 g3 G0 G2 hx0 sz0
  have r0 := block_cell (i := 0) G3.out
  have r1 := block_cell (i := 1) G3.out
  have r2 := block_cell (i := 2) G3.out
  have r3 := block_cell (i := 3) G3.out
  have r4 := block_cell (i := 4) G3.out
  simp only [List.getElem?_toArray, List.getElem?_cons_zero, List.getElem?_cons_succ] at r0 r1 r2 r3 r4
  have rf := fun i => blk_free (i := i) G3.out
  have p4 := block_cell (i := 4) GS.out
  simp only [List.getElem?_toArray, List.getElem?_cons_zero, List.getElem?_cons_succ] at p4
  have hne1 : ¬ w.heap.size = B3 := by omega
  have hne2 : ¬ B3 = w.heap.size := by omega
  go_upto_region 2 with fail
  have xs10 : BelS (fun k => k = B3) w9 (((((w9.setCell ⟨B3, 0, none⟩ (.int .i64 f.pl)).setCell ⟨B3, 1, none⟩ (.int .i64 f.mi)).setCell ⟨B3, 2, none⟩ (.slice (some ⟨g1, 0, none⟩) f.tr.length q1)).setCell ⟨B3, 3, none⟩ (.slice (some ⟨g2, 0, none⟩) f.bl.length q2)).setCell ⟨B3, 4, none⟩ (.slice none 0 0)) :=
    (((((BelS.refl _ w9).setCell (S := fun k => k = B3) ⟨B3, 0, none⟩ _ rfl).setCell ⟨B3, 1, none⟩ _ rfl).setCell ⟨B3, 2, none⟩ _ rfl).setCell ⟨B3, 3, none⟩ _ rfl).setCell ⟨B3, 4, none⟩ _ rfl
  have G10 : Hid ((((((w9.setCell ⟨B3, 0, none⟩ (.int .i64 f.pl)).setCell ⟨B3, 1, none⟩ (.int .i64 f.mi)).setCell ⟨B3, 2, none⟩ (.slice (some ⟨g1, 0, none⟩) f.tr.length q1)).setCell ⟨B3, 3, none⟩ (.slice (some ⟨g2, 0, none⟩) f.bl.length q2)).setCell ⟨B3, 4, none⟩ (.slice none 0 0)).heap[B3]? = some (.cells #[.int .i64 f.pl, .int .i64 f.mi, .slice (some ⟨g1, 0, none⟩) f.tr.length q1, .slice (some ⟨g2, 0, none⟩) f.bl.length q2, .slice none 0 0] 29 (0, 0))) := by
    have := blk_set (blk_set (blk_set (blk_set (blk_set G3.out (i := 0) (.int .i64 f.pl)) (i := 1) (.int .i64 f.mi)) (i := 2) (.slice (some ⟨g1, 0, none⟩) f.tr.length q1)) (i := 3) (.slice (some ⟨g2, 0, none⟩) f.bl.length q2)) (i := 4) (.slice none 0 0)
    unfold Hid; simpa using this
  have hx10 : Ext w (((((w9.setCell ⟨B3, 0, none⟩ (.int .i64 f.pl)).setCell ⟨B3, 1, none⟩ (.int .i64 f.mi)).setCell ⟨B3, 2, none⟩ (.slice (some ⟨g1, 0, none⟩) f.tr.length q1)).setCell ⟨B3, 3, none⟩ (.slice (some ⟨g2, 0, none⟩) f.bl.length q2)).setCell ⟨B3, 4, none⟩ (.slice none 0 0)) := ((((hx9.setCell (by show w.heap.size ≤ B3; omega) _).setCell (by show w.heap.size ≤ B3; omega) _).setCell (by show w.heap.size ≤ B3; omega) _).setCell (by show w.heap.size ≤ B3; omega) _).setCell (by show w.heap.size ≤ B3; omega) _
  generalize hW10 : (((((w9.setCell ⟨B3, 0, none⟩ (.int .i64 f.pl)).setCell ⟨B3, 1, none⟩ (.int .i64 f.mi)).setCell ⟨B3, 2, none⟩ (.slice (some ⟨g1, 0, none⟩) f.tr.length q1)).setCell ⟨B3, 3, none⟩ (.slice (some ⟨g2, 0, none⟩) f.bl.length q2)).setCell ⟨B3, 4, none⟩ (.slice none 0 0)) = W10 at xs10 G10 hx10 ⊢
  clear hW10
  have GS0 := hid (xs10.heap GS.out (by omega))
  have GZ0 := hid (xs10.heap G29.out (by omega))
  have O10 := hid (xs10.own O1.out (fun g hg e => by subst e; exact own_ne O1.out G3.out (by decide) hg))
  have O20 := hid (xs10.own O2.out (fun g hg e => by subst e; exact own_ne O2.out G3.out (by decide) hg))
  have sz10 : (w.heap.size + 2) ≤ W10.heap.size := Nat.le_trans sz9 xs10.size
  have p4 := block_cell (i := 4) GS0.out
  simp only [List.getElem?_toArray, List.getElem?_cons_zero, List.getElem?_cons_succ] at p4
  clear G3 GS G29 O1 O2 r0 r1 r2 r3 r4 rf xs10 hx9 sz9 hw9
  go_wp2
  clear p4
  go_loopw [24] (fun i wr => ∃ (k : Nat) (D : Option Addr) (kd : Nat) (xs : List Value), k ≤ f.ct.length ∧ i = .int .i64 (k : Int) ∧ Hid (wr.heap[B3]? = some (.cells #[.int .i64 f.pl, .int .i64 f.mi, .slice (some ⟨g1, 0, none⟩) f.tr.length q1, .slice (some ⟨g2, 0, none⟩) f.bl.length q2, .slice D k kd] 29 (0, 0))) ∧ Hid (wr.heap[w.heap.size]? = some (.cells #[.int .i64 f.pl, .int .i64 f.mi, .slice a1 f.tr.length c1, .slice a2 f.bl.length c2, .slice a3 f.ct.length c3] 29 (0, 0))) ∧ Hid (wr.heap[(w.heap.size + 1)]? = some (.cells #[.int .i64 0, .int .i64 0, .slice none 0 0, .slice none 0 0, .slice none 0 0] 29 (0, 0))) ∧
      Hid (wr.ownsRow (w.heap.size + 2) 78 2 (.slice (some ⟨g1, 0, none⟩) f.tr.length q1) f.tr.length (layPr.rows f.tr)) ∧ Hid (wr.ownsRow (w.heap.size + 2) 39 3 (.slice (some ⟨g2, 0, none⟩) f.bl.length q2) f.bl.length (layBl.rows f.bl)) ∧
      Hid (wr.ownsRow (w.heap.size + 2) 63 2 (.slice D k kd) k xs) ∧ Hid (OCt true wr (w.heap.size + 2) xs (f.ct.take k)) ∧ Ext w wr ∧ (w.heap.size + 2) ≤ wr.heap.size) (fun i _ => f.ct.length - (intOf i).toNat)
  case atStart => exact ⟨0, none, 0, [], Nat.zero_le _, rfl, G10, GS0, GZ0, O10, O20, own_nil _ _ _ _, trivial, hx10, sz10⟩
  case round =>
    obtain ⟨k, D, kd, xs, hk, rfl, G1, GS, GZ, O1, O2, OD, OX, hx, hsz⟩ := hrel
    by_cases hlt : k < f.ct.length
    · have hlt' : (k : Int) < (f.ct.length : Int) := by omega
      obtain ⟨x, hxk⟩ := get_of_lt f.ct k hlt
      obtain ⟨b, off, A5, k5, A6, k6, e1, g0, g1', hI, hR, -, -⟩ := (hC.ext hx).at_ hxk
      subst e1
      have hzx := Z4.out x (mem_of_get hxk)
      have HTK : Hid (f.ct.take k ++ [x] = f.ct.take (k + 1)) := (take_next hxk).symm
      clear hxk
      have p4 := block_cell (i := 4) G1.out
      simp only [List.getElem?_toArray, List.getElem?_cons_zero, List.getElem?_cons_succ] at p4
      obtain ⟨Wx, hWx⟩ : ∃ Wx, wr.alloc (.cells #[.slice A5 x.st.length k5, .slice A6 x.rp.length k6] 63) = Wx := ⟨_, rfl⟩
      have hxx : Ext wr Wx := by rw [← hWx]; exact Ext.alloc (Ext.refl _) _
      have FY : Hid (∀ w', Ext Wx w' → w'.cell? ⟨B3, 4, none⟩ = some (.slice D k kd) ∧ w'.cell? ⟨wr.heap.size, 0, none⟩ = some (.slice A5 x.st.length k5) ∧ w'.cell? ⟨wr.heap.size, 1, none⟩ = some (.slice A6 x.rp.length k6)) := fun w' h => ⟨h.cell (hxx.cell p4), h.cell (by rw [← hWx]; simp [go_sem]), h.cell (by rw [← hWx]; simp [go_sem])⟩
      have HI := hid (show Ints Wx A5 x.st ∧ Reps Wx A6 x.rp from ⟨hI.ext hxx, Rows.ext hR hxx⟩)
      have szx : (w.heap.size + 2) ≤ Wx.heap.size := by have := hxx.size; omega
      clear p4 hI hR
      go_upto_region 5 with fail
      try rw [hWx]
      clear hWx g0 g1'
      refine wp_region_shut_tail Ext (fun w' => Ext Wx w') (fun
        | 4 => some (fun v w' => ∃ A q, v = .slice A x.st.length q ∧ w'.ownsRow (w.heap.size + 2) 3 1 (.slice A x.st.length q) x.st.length (x.st.map (.int .i64)))
        | 7 => some (fun v w' => ∃ A q, v = .slice A x.rp.length q ∧ w'.ownsRow (w.heap.size + 2) 82 2 (.slice A x.rp.length q) x.rp.length (layRp.rows x.rp) ∧ q = x.rp.length)
        | 8 => some (fun v w' => ∃ a b, v = .agg #[a, b] ∧ OC true w' (w.heap.size + 2) a b x)
        | 9 => some (fun v w' => ∃ B a b, v = .slice (some ⟨B, 0, none⟩) 1 1 ∧ Rd w' (some ⟨B, 0, none⟩) [a, b] ∧ OC true w' (w.heap.size + 2) a b x)
        | _ => none) 10 (by kernel_rfl) (by kernel_rfl) (fun _ _ h k => h.trans k) ?hTb (Ext.drew (Ext.refl Wx)) ?_
      case hTb =>
        intro i R hR
        match i, hR with
        | 4, hR => cases hR; exact fun _ _ _ ⟨g, q, h1, h2⟩ k => ⟨g, q, h1, own_below h2 k⟩
        | 7, hR => cases hR; exact fun _ _ _ ⟨g, q, h1, h2, h3⟩ k => ⟨g, q, h1, own_below h2 k, h3⟩
        | 8, hR => cases hR; exact fun _ _ _ ⟨a, b, h1, h2⟩ k => ⟨a, b, h1, h2.ext k⟩
        | 9, hR => cases hR; exact fun _ _ _ ⟨B, a, b, h1, h2, h3⟩ k => ⟨B, a, b, h1, h2.ext k, h3.ext k⟩
      refine wM_val ?ub0 rfl rfl Ext.refl (fun w' hD => ?hb0) (fun phb0 => ?nb0)
      case hb0 =>
        obtain ⟨d0, d1, d2⟩ := FY.out w' hD.1
        go_simp; rfl
      simp only [Act.put, List.setIfInBounds_toArray, List.set_cons_succ, List.set_cons_zero, Nat.reduceAdd]
      refine wM_val ?ub1 rfl rfl Ext.refl (fun w' hD => ?hb1) (fun phb1 => ?nb1)
      case hb1 =>
        obtain ⟨d0, d1, d2⟩ := FY.out w' hD.1
        go_simp; rfl
      simp only [Act.put, List.setIfInBounds_toArray, List.set_cons_succ, List.set_cons_zero, Nat.reduceAdd]
      refine wM_val ?ub2 rfl rfl Ext.refl (fun w' hD => ?hb2) (fun phb2 => ?nb2)
      case hb2 =>
        obtain ⟨d0, d1, d2⟩ := FY.out w' hD.1
        go_simp; rfl
      simp only [Act.put, List.setIfInBounds_toArray, List.set_cons_succ, List.set_cons_zero, Nat.reduceAdd]
      refine wM_val ?ub3 rfl rfl Ext.refl (fun w' hD => ?hb3) (fun phb3 => ?nb3)
      case hb3 =>
        obtain ⟨d0, d1, d2⟩ := FY.out w' hD.1
        go_simp; rfl
      simp only [Act.put, List.setIfInBounds_toArray, List.set_cons_succ, List.set_cons_zero, Nat.reduceAdd]
      refine wM_op _ rfl rfl (opens_call ?fb4 ?gb4 (fun w' hD => ?hb4) (fun w' hD => ?cb4)) (fun v4 hv4 => ?nb4)
      case hb4 => go_simp; constructor <;> rfl
      case cb4 =>
        refine (dup_int A5 k5 x.st w' (HI.out.1.ext hD.1) (by omega)).mono ?_
        rintro e w2 ⟨g, q, rfl, ho, hb⟩
        exact ⟨_, rfl, hb, some ⟨g, 0, none⟩, q, rfl, own_base ho (by have := hD.1.size; omega)⟩
      obtain ⟨_, -, -, A8, q8, rfl, -⟩ := hv4
      simp only [Act.put, List.setIfInBounds_toArray, List.set_cons_succ, List.set_cons_zero, Nat.reduceAdd]
      refine wM_val ?ub5 rfl rfl Ext.refl (fun w' hD => ?hb5) (fun phb5 => ?nb5)
      case hb5 =>
        obtain ⟨d0, d1, d2⟩ := FY.out w' hD.1
        go_simp; rfl
      simp only [Act.put, List.setIfInBounds_toArray, List.set_cons_succ, List.set_cons_zero, Nat.reduceAdd]
      refine wM_val ?ub6 rfl rfl Ext.refl (fun w' hD => ?hb6) (fun phb6 => ?nb6)
      case hb6 =>
        obtain ⟨d0, d1, d2⟩ := FY.out w' hD.1
        go_simp; rfl
      simp only [Act.put, List.setIfInBounds_toArray, List.set_cons_succ, List.set_cons_zero, Nat.reduceAdd]
      refine wM_op _ rfl rfl (opens_call ?fb7 ?gb7 (fun w' hD => ?hb7) (fun w' hD => ?cb7)) (fun v7 hv7 => ?nb7)
      case hb7 => go_simp; constructor <;> rfl
      case cb7 =>
        refine (dup_full A6 k6 x.rp w' (Rows.ext HI.out.2 hD.1) (by omega)).mono ?_
        rintro e w2 ⟨g, rfl, ho, hb⟩
        exact ⟨_, rfl, hb, some ⟨g, 0, none⟩, _, rfl, own_base ho (by have := hD.1.size; omega), rfl⟩
      obtain ⟨_, -, -, A9, q9, rfl, -⟩ := hv7
      simp only [Act.put, List.setIfInBounds_toArray, List.set_cons_succ, List.set_cons_zero, Nat.reduceAdd]
      refine wM_op _ rfl rfl (opens_val (fun w' hD => ?hb8)) (fun v8 hv8 => ?nb8)
      case hb8 =>
        obtain ⟨_, A, q, e1, h1⟩ := hD.get 4 (by first | kernel_rfl | simp [Region.binds])
        obtain ⟨_, A', q', e2, h2, h3⟩ := hD.get 7 (by first | kernel_rfl | simp [Region.binds])
        refine ⟨.agg #[.slice A8 x.st.length q8, .slice A9 x.rp.length q9], w', ?_, Ext.refl _, ⟨_, _, rfl, ⟨A, q, e1, h1⟩, A', q', e2, h2, fun _ => h3⟩⟩
        go_simp
      obtain ⟨_, _, _, a8, b8, e8, ⟨Ax, qx, ea, -⟩, Ay, qy, eb, -⟩ := hv8
      subst ea
      subst eb
      subst e8
      simp only [Act.put, List.setIfInBounds_toArray, List.set_cons_succ, List.set_cons_zero, Nat.reduceAdd]
      refine wM_op _ rfl rfl (opens_val (fun w' hD => ?hb9)) (fun v9 hv9 => ?nb9)
      case hb9 =>
        obtain ⟨_, a, b, e1, h1⟩ := hD.get 8 (by first | kernel_rfl | simp [Region.binds])
        cases e1
        refine ⟨.slice (some ⟨w'.heap.size, 0, none⟩) 1 1, w'.alloc (.cells #[.slice Ax x.st.length qx, .slice Ay x.rp.length qy] 63), ?_, Ext.alloc (Ext.refl _) _, ⟨w'.heap.size, _, _, rfl, rd_new w' [.slice Ax x.st.length qx, .slice Ay x.rp.length qy] _ _ rfl, h1.ext (Ext.alloc (Ext.refl _) _)⟩⟩
        go_simp
      obtain ⟨_, _, _, B9, a9, b9, rfl, -⟩ := hv9
      simp only [Act.put, List.setIfInBounds_toArray, List.set_cons_succ, List.set_cons_zero, Nat.reduceAdd]
      refine wM_nil ?_
      intro w9 hw9 hF9
      obtain ⟨-, B', va, vb, e9, hrd, hoc⟩ := hF9 9
      cases e9
      clear hF9 FY
      have hx9 := hxx.trans hw9
      have HRD := hid hrd
      have HOC := hid hoc
      have G19 := hid ((Below.block hx9 _ (Array.getElem?_eq_some_iff.1 G1.out).1).trans G1.out)
      have GS9 := hid ((Below.block hx9 _ (Array.getElem?_eq_some_iff.1 GS.out).1).trans GS.out)
      have GZ9 := hid ((Below.block hx9 _ (Array.getElem?_eq_some_iff.1 GZ.out).1).trans GZ.out)
      have O19 := hid (own_below O1.out hx9)
      have O29 := hid (own_below O2.out hx9)
      have OD9 := hid (own_below OD.out hx9)
      have OX9 := hid (OX.out.ext hx9)
      have hxw9 := hid (hx.trans hx9)
      have sz9 : (w.heap.size + 2) ≤ w9.heap.size := by have := hx9.size; omega
      have hnb : (k + 1) * 48 ≤ 140737488355328 := by omega
      have HON : Hid (∀ u ∈ [va, vb], u.oneCell' = true) := by
        obtain ⟨⟨_, _, ea, _⟩, _, _, eb, _⟩ := HOC.out
        intro u hu
        simp at hu
        rcases hu with rfl | rfl
        · rw [ea]; rfl
        · rw [eb]; rfl
      clear hrd hoc OD O1 O2 OX G1 GS GZ hxx hw9 HI szx
      simp only [List.drop_succ_cons, List.drop_zero]
      refine wpList_append_rd2 _ rfl _ _ 27 rfl elem_cart (w.heap.size + 2) _ k xs rfl OD9.out (some ⟨B9, 0, none⟩) 1 1 [va, vb] rfl rfl HRD.out HON.out hnb sz9 ?_
      intro D6 k6 W6 own6 hbel6 hgr6 hloc6
      have hS6 : BelS (fun g => (Value.slice D k kd).ownBlock = some g) w9 W6 := (BelS.refl _ w9).grown hgr6 (fun g e => e)
      have hD6 : ∀ g, (Value.slice D k kd).ownBlock = some g → ∃ cs T, w9.heap[g]? = some (.cells cs T (0, 0)) ∧ T = 63 := fun g hg => by
        obtain ⟨cur, hc⟩ := own_blk OD9.out hg
        exact ⟨cur, _, hc, rfl⟩
      have hD7 : ∀ g, (Value.slice D k kd).ownBlock = some g → ∃ cs T, w9.heap[g]? = some (.cells cs T (0, 0)) ∧ T ≠ 3 ∧ T ≠ 82 := fun g hg => by
        obtain ⟨cs, T, hc, rfl⟩ := hD6 g hg
        exact ⟨cs, _, hc, by decide, by decide⟩
      have G16 := hid (hS6.heap G19.out (fun e => own_ne OD9.out G19.out (by decide) e))
      have GS6 := hid (hS6.heap GS9.out (fun e => own_ne OD9.out GS9.out (by decide) e))
      have GZ6 := hid (hS6.heap GZ9.out (fun e => own_ne OD9.out GZ9.out (by decide) e))
      have O16 := hid (hS6.own O19.out (fun g hg hs => by obtain ⟨cs, T, hh, rfl⟩ := hD6 g hs; exact own_ne O19.out hh (by decide) hg))
      have O26 := hid (hS6.own O29.out (fun g hg hs => by obtain ⟨cs, T, hh, rfl⟩ := hD6 g hs; exact own_ne O29.out hh (by decide) hg))
      have OX6 := hid (OCt.keep hS6 hD7 OX9.out)
      have OC6 := hid (OC.keep HOC.out hS6 hD7)
      have hxw6 : Ext w W6 := Ext.grown hxw9.out hgr6 (fun j e => by have := (OD9.out.lt j e).1; omega)
      have sz6 : (w.heap.size + 2) ≤ W6.heap.size := Nat.le_trans sz9 hS6.size
      have OD6 := hid own6
      have hcr : W6.cell? ⟨B3, 4, none⟩ = some (.slice D k kd) := by rw [block_cell G16.out]; rfl
      have hfr := blk_free (i := 4) G16.out
      clear own6 hloc6 hgr6 hbel6 hS6 hD6 hD7 G19 GS9 GZ9 O19 O29 OX9 HOC OD9 hxw9 sz9 HRD HON
      go_wp2
      have st : BelS (fun g => g = B3) W6 (W6.setCell ⟨B3, 4, none⟩ (.slice D6 (k + 1) k6)) := (BelS.refl _ W6).setCell _ _ rfl
      have G17 : Hid ((W6.setCell ⟨B3, 4, none⟩ (.slice D6 (k + 1) k6)).heap[B3]? = some (.cells #[.int .i64 f.pl, .int .i64 f.mi, .slice (some ⟨g1, 0, none⟩) f.tr.length q1, .slice (some ⟨g2, 0, none⟩) f.bl.length q2, .slice D6 (k + 1) k6] 29 (0, 0))) := by
        have := blk_set G16.out (i := 4) (.slice D6 (k + 1) k6)
        unfold Hid; simpa using this
      have GS7 := hid (st.heap GS6.out (by omega))
      have GZ7 := hid (st.heap GZ6.out (by omega))
      have O17 := hid (st.own O16.out (fun g hg e => by subst e; exact own_ne O16.out G16.out (by decide) hg))
      have O27 := hid (st.own O26.out (fun g hg e => by subst e; exact own_ne O26.out G16.out (by decide) hg))
      have OD7 := hid (st.own OD6.out (fun g hg e => by subst e; exact own_ne OD6.out G16.out (by decide) hg))
      have hSS : ∀ g, g = B3 → ∃ cs T, W6.heap[g]? = some (.cells cs T (0, 0)) ∧ T ≠ 3 ∧ T ≠ 82 := fun g hg => by subst hg; exact ⟨_, _, G16.out, by decide, by decide⟩
      have OX7 : Hid (OCt true (W6.setCell ⟨B3, 4, none⟩ (.slice D6 (k + 1) k6)) (w.heap.size + 2) (xs ++ [va, vb]) (f.ct.take (k + 1))) := by
        unfold Hid
        rw [← HTK.out]
        exact OCt.snoc (OC6.out.keep st hSS) (OCt.keep st hSS OX6.out)
      have hx7 : Ext w (W6.setCell ⟨B3, 4, none⟩ (.slice D6 (k + 1) k6)) := hxw6.setCell (by show w.heap.size ≤ B3; omega) _
      have sz7 : (w.heap.size + 2) ≤ (W6.setCell ⟨B3, 4, none⟩ (.slice D6 (k + 1) k6)).heap.size := by simp; omega
      clear st hSS G16 GS6 GZ6 O16 O26 OX6 OC6 OD6 hcr hfr
      go_roundw
      case rel => exact ⟨k + 1, D6, k6, xs ++ [va, vb], by omega, by go_num, G17, GS7, GZ7, O17, O27, OD7, OX7, hx7, sz7⟩
      case measure => simp [intOf]; omega
    · have hlt' : ¬ (k : Int) < (f.ct.length : Int) := by omega
      have hkl : k = f.ct.length := by omega
      subst hkl
      have hox := OX.out
      rw [List.take_of_length_le (Nat.le_refl _)] at hox
      have HOX := hid hox
      clear hox OX
      have p0 := block_cell (i := 0) G1.out
      have p1 := block_cell (i := 1) G1.out
      have p2 := block_cell (i := 2) G1.out
      have p3 := block_cell (i := 3) G1.out
      have p4 := block_cell (i := 4) G1.out
      simp only [List.getElem?_toArray, List.getElem?_cons_zero, List.getElem?_cons_succ] at p0 p1 p2 p3 p4
      have r0 := block_cell (i := 0) GZ.out
      have r1 := block_cell (i := 1) GZ.out
      have r2 := block_cell (i := 2) GZ.out
      have r3 := block_cell (i := 3) GZ.out
      have r4 := block_cell (i := 4) GZ.out
      simp only [List.getElem?_toArray, List.getElem?_cons_zero, List.getElem?_cons_succ] at r0 r1 r2 r3 r4
      have rf := fun i => blk_free (i := i) GZ.out
      go_wp2
      have xf : Ext w (((((wr.setCell ⟨w.heap.size + 1, 0, none⟩ (.int .i64 f.pl)).setCell ⟨w.heap.size + 1, 1, none⟩ (.int .i64 f.mi)).setCell ⟨w.heap.size + 1, 2, none⟩ (.slice (some ⟨g1, 0, none⟩) f.tr.length q1)).setCell ⟨w.heap.size + 1, 3, none⟩ (.slice (some ⟨g2, 0, none⟩) f.bl.length q2)).setCell ⟨w.heap.size + 1, 4, none⟩ (.slice D f.ct.length kd)) := (((((hx.setCell (by show w.heap.size ≤ w.heap.size + 1; omega) _).setCell (by show w.heap.size ≤ w.heap.size + 1; omega) _).setCell (by show w.heap.size ≤ w.heap.size + 1; omega) _).setCell (by show w.heap.size ≤ w.heap.size + 1; omega) _).setCell (by show w.heap.size ≤ w.heap.size + 1; omega) _)
      have xg : BelS (fun i => i = w.heap.size + 1) wr (((((wr.setCell ⟨w.heap.size + 1, 0, none⟩ (.int .i64 f.pl)).setCell ⟨w.heap.size + 1, 1, none⟩ (.int .i64 f.mi)).setCell ⟨w.heap.size + 1, 2, none⟩ (.slice (some ⟨g1, 0, none⟩) f.tr.length q1)).setCell ⟨w.heap.size + 1, 3, none⟩ (.slice (some ⟨g2, 0, none⟩) f.bl.length q2)).setCell ⟨w.heap.size + 1, 4, none⟩ (.slice D f.ct.length kd)) := ((((((BelS.refl _ wr).setCell (S := fun i => i = w.heap.size + 1) ⟨w.heap.size + 1, 0, none⟩ _ rfl).setCell (S := fun i => i = w.heap.size + 1) ⟨w.heap.size + 1, 1, none⟩ _ rfl).setCell (S := fun i => i = w.heap.size + 1) ⟨w.heap.size + 1, 2, none⟩ _ rfl).setCell (S := fun i => i = w.heap.size + 1) ⟨w.heap.size + 1, 3, none⟩ _ rfl).setCell (S := fun i => i = w.heap.size + 1) ⟨w.heap.size + 1, 4, none⟩ _ rfl)
      have hgs : ∀ g, g = w.heap.size + 1 → ∃ cs T, wr.heap[g]? = some (.cells cs T (0, 0)) ∧ T ≠ 3 ∧ T ≠ 82 := fun g hg => by subst hg; exact ⟨_, _, GZ.out, by decide, by decide⟩
      have h1 := xg.own O1.out (fun g hg e => by subst e; exact own_ne O1.out GZ.out (by decide) hg)
      have h2 := xg.own O2.out (fun g hg e => by subst e; exact own_ne O2.out GZ.out (by decide) hg)
      have h3 := xg.own OD.out (fun g hg e => by subst e; exact own_ne OD.out GZ.out (by decide) hg)
      have h4 := OCt.keep xg hgs HOX.out
      have hres : OwnFB (((((wr.setCell ⟨w.heap.size + 1, 0, none⟩ (.int .i64 f.pl)).setCell ⟨w.heap.size + 1, 1, none⟩ (.int .i64 f.mi)).setCell ⟨w.heap.size + 1, 2, none⟩ (.slice (some ⟨g1, 0, none⟩) f.tr.length q1)).setCell ⟨w.heap.size + 1, 3, none⟩ (.slice (some ⟨g2, 0, none⟩) f.bl.length q2)).setCell ⟨w.heap.size + 1, 4, none⟩ (.slice D f.ct.length kd)) (w.heap.size + 2) (fval f (some ⟨g1, 0, none⟩) q1 (some ⟨g2, 0, none⟩) q2 D kd) f := ⟨g1, q1, g2, q2, D, kd, xs, rfl, h1, h2, h3, h4⟩
      refine bodyPost_ret (v := fval f (some ⟨g1, 0, none⟩) q1 (some ⟨g2, 0, none⟩) q2 D kd) ?_ rfl ⟨_, _, rfl, xf, by omega, hres⟩
      simp [results, Tryz.results38, go_sem, fval, r0, r1, r2, r3, r4]
theorem own_any (v : Value) (f : Fg) (w : World) (hf : FgR w v f) (hs : f.sized) :
    Calls Tryz.prog 38 #[v] w (OwnPost w f) :=
  (own_at_ v f w hf hs).mono fun e w' ⟨v, B, he, hx, _, h⟩ => ⟨v, he, hx, B, h⟩
end Go.Proofs.YtlonpgbapiemcaaGreat
