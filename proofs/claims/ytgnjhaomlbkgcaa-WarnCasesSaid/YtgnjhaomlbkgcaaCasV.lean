/- The walk of WarnCases. Printed by my gen_cas.py. -/
import Derived.Test.YtgnjhaomlbkgcaaRowsA
import Derived.Test.YtgnjhaomlbkgcaaCasA
import Derived.Test.YtgnjhaomlbkgcaaDup
import Derived.Laws.StructEq
import Derived.Deep.DeepCutAuto
import Derived.Deep.CutBlock
namespace Go.Proofs.Ytgnjhaomlbkgcaa
open Go Go.RowKit
set_option linter.unusedVariables false
set_option linter.unusedSimpArgs false

theorem great_sized4 {c : Cs} (h : greatC c = false) : c.bs.length * 24 ≤ 140737488355328 ∧ c.cl.length * 32 ≤ 140737488355328 ∧ ∀ x ∈ c.cl, x.bs.length * 24 ≤ 140737488355328 := by
  unfold greatC at h
  simp only [Bool.or_eq_false_iff, decide_eq_false_iff_not, List.any_eq_false] at h
  obtain ⟨⟨h1, h2⟩, h3⟩ := h
  refine ⟨by omega, by omega, fun x hx => ?_⟩
  have h4 := h1 x hx
  simp only [decide_eq_true_eq] at h4
  omega
set_option maxRecDepth 100000 in
set_option maxHeartbeats 8000000 in
theorem casw_any (v : Value) (c : Cs) (b : Bd) (A : Option Addr) (k : Nat) (row : List Int) (w : World) (hc : CsR w v c) (hs : c.sized) (hA0 : Ints w A row) :
    Calls Try.prog 10 #[v, b.val, .slice A row.length k] w fun e w' => e = .returned (.bool true) ∧ Ext w w' := by
  have hc' := hc
  obtain ⟨A1, c1, A2, c2, rfl, hB, hC⟩ := hc
  obtain ⟨bf, bt, bm⟩ := b
  simp only [Bd.val]
  have HSZ := hid hs
  obtain ⟨W0, hW0⟩ : ∃ W0, (w.alloc (.cells #[.int .i64 c.ev, .slice A1 c.bs.length c1, .int .i64 c.wi, .slice A2 c.cl.length c2] 26)).alloc (.cells #[.int .i64 bf, .int .i64 bt, .int .i64 bm] 35) = W0 := ⟨_, rfl⟩
  have hx0 : Ext w W0 := by rw [← hW0]; exact Ext.alloc (Ext.alloc (Ext.refl w) _) _
  have FX : Hid (∀ w', Ext W0 w' → w'.cell? ⟨w.heap.size, 0, none⟩ = some (.int .i64 c.ev) ∧ w'.cell? ⟨w.heap.size, 1, none⟩ = some (.slice A1 c.bs.length c1) ∧ w'.cell? ⟨w.heap.size, 2, none⟩ = some (.int .i64 c.wi) ∧ w'.cell? ⟨w.heap.size, 3, none⟩ = some (.slice A2 c.cl.length c2) ∧ w'.cell? ⟨w.heap.size + 1, 0, none⟩ = some (.int .i64 bf) ∧ w'.cell? ⟨w.heap.size + 1, 1, none⟩ = some (.int .i64 bt) ∧ w'.cell? ⟨w.heap.size + 1, 2, none⟩ = some (.int .i64 bm)) := fun w' h => ⟨h.cell (by rw [← hW0]; simp [go_sem]), h.cell (by rw [← hW0]; simp [go_sem]), h.cell (by rw [← hW0]; simp [go_sem]), h.cell (by rw [← hW0]; simp [go_sem]), h.cell (by rw [← hW0]; simp [go_sem]), h.cell (by rw [← hW0]; simp [go_sem]), h.cell (by rw [← hW0]; simp [go_sem])⟩
  obtain ⟨q0, q1, q2, q3, q4, q5, q6⟩ := FX.out W0 (Ext.refl _)
  have K1 := great_any _ c W0 (hc'.ext hx0) hs
  obtain ⟨GR, hGR⟩ : ∃ GR, greatC c = GR := ⟨_, rfl⟩
  rw [hGR] at K1
  have HGR := hid hGR
  clear hs hB hC
  go_enter Try.func10, Try.ntmps10
  go_wp2_with fail
  clear hW0 q0 q1 q2 q3 q4 q5 q6
  refine K1.mono ?_
  clear K1
  rintro e w1 ⟨rfl, hb1⟩
  have hx1 := hx0.trans hb1
  clear hGR
  cases GR
  case true =>
    go_wp2_with fail
    refine (awake_any w1).mono ?_
    rintro e w2 ⟨rfl, hb2⟩
    go_wp2
    go_ret
    exact ⟨rfl, hx1.trans hb2⟩
  by_cases hr60 : (10 : Int) < (row.length : Int)
  · go_wp2_with fail
    refine (awake_any w1).mono ?_
    rintro e w2 ⟨rfl, hb2⟩
    go_wp2
    go_ret
    exact ⟨rfl, hx1.trans hb2⟩
  obtain ⟨hl1, hl2, hl3⟩ := great_sized4 HGR.out
  have HL3 := hid hl3
  have hl : row.length * 8 ≤ 140737488355328 := by omega
  clear HGR hl3
  have HC : Hid (∀ w', Ext w1 w' → CsR w' (.agg #[.int .i64 c.ev, .slice A1 c.bs.length c1, .int .i64 c.wi, .slice A2 c.cl.length c2]) c) := fun w' h => hc'.ext (hx1.trans h)
  have HA : Hid (∀ w', Ext w1 w' → Ints w' A row) := fun w' h => hA0.ext (hx1.trans h)
  clear hc' hA0
  go_wp2
  refine wp_region_shut_tail Ext (fun w' => Ext w1 w') (fun
    | 1 => some (fun v w' => ∃ B, OwnCs w' B v c)
    | 3 => some (fun v w' => ∃ g c', v = .slice (some ⟨g, 0, none⟩) row.length c' ∧ ∃ B, w'.ownsRow B 3 1 (.slice (some ⟨g, 0, none⟩) row.length c') row.length (row.map (.int .i64)))
    | 5 => some (fun v w' => TheirsCs w' v c)
    | 6 => some (fun v w' => ∃ B, v = .pointer (some ⟨B, 0, none⟩) ∧ w1.heap.size ≤ B ∧ w'.heap[B]? = some (.cells #[.int .i64 0, .slice none 0 0, .int .i64 0, .slice none 0 0] 26 (0, 0)))
    | 7 => some (fun v w' => ∃ B, v = .pointer (some ⟨B, 0, none⟩) ∧ w1.heap.size ≤ B ∧ w'.heap[B]? = some (.cells #[.int .i64 0, .slice none 0 0, .int .i64 0, .slice none 0 0] 72 (0, 0)))
    | _ => none) 8 (by kernel_rfl) (by kernel_rfl) (fun _ _ h k => h.trans k) ?hT (Ext.drew (Ext.refl w1)) ?_
  case hT =>
    intro i R hR
    match i, hR with
    | 1, hR => cases hR; exact fun _ _ _ ⟨B, h⟩ k => ⟨B, h.ext k⟩
    | 3, hR => cases hR; exact fun _ _ _ ⟨g, c', e, B, h⟩ k => ⟨g, c', e, B, own_below h k⟩
    | 5, hR => cases hR; exact fun _ _ _ h k => h.ext k
    | 6, hR => cases hR; exact fun _ _ _ ⟨B, e, h1, h⟩ k => ⟨B, e, h1, (Below.block k B (Array.getElem?_eq_some_iff.1 h).1).trans h⟩
    | 7, hR => cases hR; exact fun _ _ _ ⟨B, e, h1, h⟩ k => ⟨B, e, h1, (Below.block k B (Array.getElem?_eq_some_iff.1 h).1).trans h⟩
  refine wM_val ?ua0 rfl rfl Ext.refl (fun w' hD => ?ha0) (fun pha0 => ?na0)
  case ha0 =>
    obtain ⟨d0, d1, d2, d3, -⟩ := FX.out _ (hb1.trans hD.1)
    go_simp; rfl
  simp only [Act.put, List.setIfInBounds_toArray, List.set_cons_succ, List.set_cons_zero, Nat.reduceAdd]
  refine wM_op _ rfl rfl (opens_call ?fa1 ?ga1 (fun w' hD => ?ha1) (fun w' hD => ?ca1)) (fun v1 hv1 => ?na1)
  case ha1 => go_simp; constructor <;> rfl
  case ca1 =>
    refine (own_any _ c w' (HC.out w' hD.1) hl1 hl2 HL3.out).mono ?_
    rintro e w2 ⟨v, rfl, ho, hb⟩
    exact ⟨_, rfl, hb, _, ho⟩
  obtain ⟨_, -, -, B1, g1, k1, g2, k2, gs, xs1, rfl, -⟩ := hv1
  simp only [Act.put, List.setIfInBounds_toArray, List.set_cons_succ, List.set_cons_zero, Nat.reduceAdd]
  refine wM_val ?ua2 rfl rfl Ext.refl (fun w' hD => ?ha2) (fun pha2 => ?na2)
  case ha2 =>
    obtain ⟨d0, d1, d2, d3, -⟩ := FX.out _ (hb1.trans hD.1)
    go_simp; rfl
  simp only [Act.put, List.setIfInBounds_toArray, List.set_cons_succ, List.set_cons_zero, Nat.reduceAdd]
  refine wM_op _ rfl rfl (opens_call ?fa3 ?ga3 (fun w' hD => ?ha3) (fun w' hD => ?ca3)) (fun v3 hv3 => ?na3)
  case ha3 => go_simp; constructor <;> rfl
  case ca3 =>
    refine (dup_int A k row w' (HA.out w' hD.1) hl).mono ?_
    rintro e w2 ⟨g, c', rfl, ho, hb⟩
    exact ⟨_, rfl, hb, g, c', rfl, _, ho⟩
  obtain ⟨_, -, -, gd, kd, rfl, -⟩ := hv3
  simp only [Act.put, List.setIfInBounds_toArray, List.set_cons_succ, List.set_cons_zero, Nat.reduceAdd]
  refine wM_val ?ua4 rfl rfl Ext.refl (fun w' hD => ?ha4) (fun pha4 => ?na4)
  case ha4 =>
    obtain ⟨d0, d1, d2, d3, -⟩ := FX.out _ (hb1.trans hD.1)
    go_simp; rfl
  simp only [Act.put, List.setIfInBounds_toArray, List.set_cons_succ, List.set_cons_zero, Nat.reduceAdd]
  refine wM_op _ rfl rfl (opens_call ?fa5 ?ga5 (fun w' hD => ?ha5) (fun w' hD => ?ca5)) (fun v5 hv5 => ?na5)
  case ha5 => go_simp; constructor <;> rfl
  case ca5 =>
    refine (theirs_any _ c w' (HC.out w' hD.1) hl1 hl2 HL3.out).mono ?_
    rintro e w2 ⟨v', rfl, ho, hb⟩
    exact ⟨_, rfl, hb, ho⟩
  obtain ⟨_, -, -, A5, k5, A6, k6, xs5, B5, rfl, -⟩ := hv5
  simp only [Act.put, List.setIfInBounds_toArray, List.set_cons_succ, List.set_cons_zero, Nat.reduceAdd]
  refine wM_op _ rfl rfl (opens_val (fun w' hD => ?hm6)) (fun va6 hva6 => ?nm6)
  case hm6 =>
    refine ⟨.pointer (some ⟨w'.heap.size, 0, none⟩), w'.alloc (.cells #[.int .i64 0, .slice none 0 0, .int .i64 0, .slice none 0 0] 26), ?_, Ext.alloc (Ext.refl _) _, w'.heap.size, rfl, hD.1.size, World.alloc_heap_new _ _⟩
    go_simp
  obtain ⟨_, -, -, Ba, rfl, -⟩ := hva6
  simp only [Act.put, List.setIfInBounds_toArray, List.set_cons_succ, List.set_cons_zero, Nat.reduceAdd]
  refine wM_op _ rfl rfl (opens_val (fun w' hD => ?hm7)) (fun va7 hva7 => ?nm7)
  case hm7 =>
    refine ⟨.pointer (some ⟨w'.heap.size, 0, none⟩), w'.alloc (.cells #[.int .i64 0, .slice none 0 0, .int .i64 0, .slice none 0 0] 72), ?_, Ext.alloc (Ext.refl _) _, w'.heap.size, rfl, hD.1.size, World.alloc_heap_new _ _⟩
    go_simp
  obtain ⟨_, -, -, Bb, rfl, -⟩ := hva7
  simp only [Act.put, List.setIfInBounds_toArray, List.set_cons_succ, List.set_cons_zero, Nat.reduceAdd]
  refine wM_nil ?_
  intro w9 hw9 hF9
  obtain ⟨-, B1', ho1⟩ := hF9 1
  obtain ⟨-, gd', kd', e3, Bd9, ho3⟩ := hF9 3
  cases e3
  obtain ⟨-, ho5⟩ := hF9 5
  obtain ⟨-, Ba', e6, hBa, GA⟩ := hF9 6
  cases e6
  obtain ⟨-, Bb', e7, hBb, GB⟩ := hF9 7
  cases e7
  clear hF9
  have hab : Ba ≠ Bb := fun e => by
    rw [e, GB] at GA
    injection GA with e1
    injection e1 with _ e2 _
    exact absurd e2 (by decide)
  have hba : Bb ≠ Ba := fun e => hab e.symm
  have hCB : CaseB w9 (fun n => n = Ba ∨ n = Bb) := fun n hn => by
    rcases hn with e | e
    · exact ⟨_, _, by rw [e]; exact GA, .inl rfl⟩
    · exact ⟨_, _, by rw [e]; exact GB, .inr rfl⟩
  obtain ⟨Wn, hWn⟩ : ∃ Wn, ((((((((w9.setCell ⟨Ba, 0, none⟩ (.int .i64 c.ev)).setCell ⟨Ba, 1, none⟩ (.slice (some ⟨g1, 0, none⟩) c.bs.length k1)).setCell ⟨Ba, 2, none⟩ (.int .i64 c.wi)).setCell ⟨Ba, 3, none⟩ (.slice (some ⟨g2, 0, none⟩) c.cl.length k2)).setCell ⟨Bb, 0, none⟩ (.int .i64 c.ev)).setCell ⟨Bb, 1, none⟩ (.slice A5 c.bs.length k5)).setCell ⟨Bb, 2, none⟩ (.int .i64 c.wi)).setCell ⟨Bb, 3, none⟩ (.slice A6 c.cl.length k6)) = Wn := ⟨_, rfl⟩
  have hbn : BelS (fun n => n = Ba ∨ n = Bb) w9 Wn := by
    rw [← hWn]
    exact (((((((((BelS.refl _ w9).setCell (S := fun n => n = Ba ∨ n = Bb) ⟨Ba, 0, none⟩ _ (.inl rfl)).setCell (S := fun n => n = Ba ∨ n = Bb) ⟨Ba, 1, none⟩ _ (.inl rfl)).setCell (S := fun n => n = Ba ∨ n = Bb) ⟨Ba, 2, none⟩ _ (.inl rfl)).setCell (S := fun n => n = Ba ∨ n = Bb) ⟨Ba, 3, none⟩ _ (.inl rfl)).setCell (S := fun n => n = Ba ∨ n = Bb) ⟨Bb, 0, none⟩ _ (.inr rfl)).setCell (S := fun n => n = Ba ∨ n = Bb) ⟨Bb, 1, none⟩ _ (.inr rfl)).setCell (S := fun n => n = Ba ∨ n = Bb) ⟨Bb, 2, none⟩ _ (.inr rfl)).setCell (S := fun n => n = Ba ∨ n = Bb) ⟨Bb, 3, none⟩ _ (.inr rfl))
  have hx0n : Ext W0 Wn := by
    have h1 : W0.heap.size ≤ Ba := Nat.le_trans hb1.size hBa
    have h2 : W0.heap.size ≤ Bb := Nat.le_trans hb1.size hBb
    rw [← hWn]
    exact (((((((((hb1.trans hw9).setCell (by simpa using h1) _).setCell (by simpa using h1) _).setCell (by simpa using h1) _).setCell (by simpa using h1) _).setCell (by simpa using h2) _).setCell (by simpa using h2) _).setCell (by simpa using h2) _).setCell (by simpa using h2) _)
  have hx1n : Ext w1 Wn := by
    rw [← hWn]
    exact ((((((((hw9.setCell (by simpa using hBa) _).setCell (by simpa using hBa) _).setCell (by simpa using hBa) _).setCell (by simpa using hBa) _).setCell (by simpa using hBb) _).setCell (by simpa using hBb) _).setCell (by simpa using hBb) _).setCell (by simpa using hBb) _)
  have p0 := block_cell (i := 0) GA
  have p1 := block_cell (i := 1) GA
  have p2 := block_cell (i := 2) GA
  have p3 := block_cell (i := 3) GA
  have f0 := block_free (i := 0) GA
  have f1 := block_free (i := 1) GA
  have f2 := block_free (i := 2) GA
  have f3 := block_free (i := 3) GA
  have u0 := block_cell (i := 0) GB
  have u1 := block_cell (i := 1) GB
  have u2 := block_cell (i := 2) GB
  have u3 := block_cell (i := 3) GB
  have v0 := block_free (i := 0) GB
  have v1 := block_free (i := 1) GB
  have v2 := block_free (i := 2) GB
  have v3 := block_free (i := 3) GB
  simp only [List.getElem?_toArray, List.getElem?_cons_zero, List.getElem?_cons_succ] at p0 p1 p2 p3 u0 u1 u2 u3
  have FN : Hid (((Wn.cell? ⟨Ba, 0, none⟩ = some (.int .i64 c.ev) ∧ Wn.cell? ⟨Ba, 1, none⟩ = some (.slice (some ⟨g1, 0, none⟩) c.bs.length k1) ∧ Wn.cell? ⟨Ba, 2, none⟩ = some (.int .i64 c.wi) ∧ Wn.cell? ⟨Ba, 3, none⟩ = some (.slice (some ⟨g2, 0, none⟩) c.cl.length k2)) ∧ Wn.cell? ⟨Bb, 0, none⟩ = some (.int .i64 c.ev) ∧ Wn.cell? ⟨Bb, 1, none⟩ = some (.slice A5 c.bs.length k5) ∧ Wn.cell? ⟨Bb, 2, none⟩ = some (.int .i64 c.wi) ∧ Wn.cell? ⟨Bb, 3, none⟩ = some (.slice A6 c.cl.length k6))) := by
    unfold Hid
    rw [← hWn]
    have hab' := hab
    have hba' := hba
    simp [go_sem, p0, p1, p2, p3, u0, u1, u2, u3, hab', hba']
  have HOC : Hid (CsR Wn (.agg #[.int .i64 c.ev, .slice (some ⟨g1, 0, none⟩) c.bs.length k1, .int .i64 c.wi, .slice (some ⟨g2, 0, none⟩) c.cl.length k2]) c) := ho1.stores hCB hbn
  have HXC : Hid (CsR Wn (.agg #[.int .i64 c.ev, .slice A5 c.bs.length k5, .int .i64 c.wi, .slice A6 c.cl.length k6]) c) := ho5.stores hCB hbn
  have HDI : Hid (Ints Wn (some ⟨gd, 0, none⟩) row) := Rd.of_own (hCB.own hbn ho3 (by decide) (by decide))
  have hkd : row.length ≤ kd := by
    rcases ho3.2 with ⟨h, _⟩ | ⟨g9, cap9, cur9, h, _, _, hnc, _⟩
    · cases h
    · cases h; exact hnc
  clear ho1 ho3 ho5 hCB hbn GA GB
  simp only [List.drop_succ_cons, List.drop_zero]
  obtain ⟨⟨a0, a1, a2, a3⟩, x0, x1, x2, x3⟩ := FN.out
  have FC : Hid (∀ w', Ext Wn w' → (w'.cell? ⟨Ba, 0, none⟩ = some (.int .i64 c.ev) ∧ w'.cell? ⟨Ba, 1, none⟩ = some (.slice (some ⟨g1, 0, none⟩) c.bs.length k1) ∧ w'.cell? ⟨Ba, 2, none⟩ = some (.int .i64 c.wi) ∧ w'.cell? ⟨Ba, 3, none⟩ = some (.slice (some ⟨g2, 0, none⟩) c.cl.length k2)) ∧ (w'.cell? ⟨Bb, 0, none⟩ = some (.int .i64 c.ev) ∧ w'.cell? ⟨Bb, 1, none⟩ = some (.slice A5 c.bs.length k5) ∧ w'.cell? ⟨Bb, 2, none⟩ = some (.int .i64 c.wi) ∧ w'.cell? ⟨Bb, 3, none⟩ = some (.slice A6 c.cl.length k6)) ∧ w'.cell? ⟨w.heap.size, 0, none⟩ = some (.int .i64 c.ev) ∧ w'.cell? ⟨w.heap.size, 1, none⟩ = some (.slice A1 c.bs.length c1) ∧ w'.cell? ⟨w.heap.size, 2, none⟩ = some (.int .i64 c.wi) ∧ w'.cell? ⟨w.heap.size, 3, none⟩ = some (.slice A2 c.cl.length c2) ∧ w'.cell? ⟨w.heap.size + 1, 0, none⟩ = some (.int .i64 bf) ∧ w'.cell? ⟨w.heap.size + 1, 1, none⟩ = some (.int .i64 bt) ∧ w'.cell? ⟨w.heap.size + 1, 2, none⟩ = some (.int .i64 bm)) := fun w' h => ⟨⟨h.cell a0, h.cell a1, h.cell a2, h.cell a3⟩, ⟨h.cell x0, h.cell x1, h.cell x2, h.cell x3⟩, FX.out w' (hx0n.trans h)⟩
  obtain ⟨-, -, q0, q1, q2, q3, q4, q5, q6⟩ := FC.out Wn (Ext.refl _)
  have HO : Hid (∀ w', Ext Wn w' → CsR w' (.agg #[.int .i64 c.ev, .slice (some ⟨g1, 0, none⟩) c.bs.length k1, .int .i64 c.wi, .slice (some ⟨g2, 0, none⟩) c.cl.length k2]) c) := fun w' h => HOC.out.ext h
  have HXX : Hid (∀ w', Ext Wn w' → CsR w' (.agg #[.int .i64 c.ev, .slice A5 c.bs.length k5, .int .i64 c.wi, .slice A6 c.cl.length k6]) c) := fun w' h => HXC.out.ext h
  have HV : Hid (∀ w', Ext Wn w' → CsR w' (.agg #[.int .i64 c.ev, .slice A1 c.bs.length c1, .int .i64 c.wi, .slice A2 c.cl.length c2]) c) := fun w' h => HC.out w' (hx1n.trans h)
  have HD : Hid (∀ w', Ext Wn w' → Ints w' (some ⟨gd, 0, none⟩) row) := fun w' h => HDI.out.ext h
  have HA' : Hid (∀ w', Ext Wn w' → Ints w' A row) := fun w' h => HA.out w' (hx1n.trans h)
  have HXN : Hid (Ext w Wn) := hx1.trans hx1n
  have HLL : Hid (row.length ≤ 10) := by unfold Hid; omega
  have HKD := hid hkd
  have HL4 : Hid (c.bs.length * 24 ≤ 140737488355328 ∧ c.cl.length * 32 ≤ 140737488355328) := ⟨hl1, hl2⟩
  have h0 : Ext Wn Wn := Ext.refl _
  clear FX HC HA HOC HXC HDI FN hx0n hx1n hx1 hx0 hb1 hBa hBb hw9 hkd
  obtain ⟨M, hM⟩ : ∃ M, checkC c = M := ⟨_, rfl⟩
  have HM := hid hM
  have K := refcheck_any _ c Wn (HXX.out Wn h0) HSZ.out
  rw [hM] at K
  have HK := hid K
  have n1 : (M != M) = false := by simp
  clear K hM
  go_wp2_with fail
  clear hWn hab hba p0 p1 p2 p3 u0 u1 u2 u3 f0 f1 f2 f3 v0 v1 v2 v3 hl hl1 hl2 hr60
  clear a0 a1 a2 a3 x0 x1 x2 x3 q0 q1 q2 q3 q4 q5 q6
  refine HK.out.mono ?_
  clear HK
  rintro e w10 ⟨rfl, h⟩
  have h10 : Ext Wn w10 := h
  clear h h0
  obtain ⟨U, hU⟩ : ∃ U, toldBC c ⟨bf, bt, bm⟩ = U := ⟨_, rfl⟩
  have HU := hid hU
  obtain ⟨V, hV⟩ : ∃ V, believeC c row = V := ⟨_, rfl⟩
  have HT := hid hV
  obtain ⟨TC, hTC⟩ : ∃ x, toldK c ⟨bf, bt, bm⟩ = x := ⟨_, rfl⟩
  have HTC := hid hTC
  obtain ⟨BC, hBC⟩ : ∃ x, belK c row = x := ⟨_, rfl⟩
  have HBC := hid hBC
  obtain ⟨AL, hAL⟩ : ∃ x, allK c = x := ⟨_, rfl⟩
  have HAL := hid hAL
  clear hU hV hTC hBC hAL
  have K := check_any _ c w10 (HO.out w10 h10) HSZ.out
  rw [HM.out] at K
  have HK := hid K
  clear K
  obtain ⟨⟨a0, a1, a2, a3⟩, ⟨x0, x1, x2, x3⟩, q0, q1, q2, q3, q4, q5, q6⟩ := FC.out w10 h10
  go_wp2_with fail
  clear a0 a1 a2 a3 x0 x1 x2 x3 q0 q1 q2 q3 q4 q5 q6
  refine HK.out.mono ?_
  clear HK
  rintro e w11 ⟨rfl, h⟩
  have h11 := h10.trans h
  clear h
  have K := all_call _ c w11 (HO.out w11 h11) HSZ.out
  rw [HM.out, HAL.out] at K
  have HK := hid K
  clear K
  obtain ⟨⟨a0, a1, a2, a3⟩, ⟨x0, x1, x2, x3⟩, q0, q1, q2, q3, q4, q5, q6⟩ := FC.out w11 h11
  go_wp2_with fail
  clear a0 a1 a2 a3 x0 x1 x2 x3 q0 q1 q2 q3 q4 q5 q6
  refine HK.out.mono ?_
  clear HK
  rintro e w12 ⟨A12, k12, rfl, h, ho12⟩
  have h12 := h11.trans h
  have hb12 := ho12
  have Y12 : Ext w12 w12 := Ext.refl _
  have H1112 : Hid (w11.heap.size ≤ w12.heap.size) := h.size
  have H11E : Hid (Ext w11 w12) := h
  clear h
  have K := told_call _ c ⟨bf, bt, bm⟩ w12 (HO.out w12 h12) HSZ.out
  simp only [Bd.val] at K
  rw [HU.out, HTC.out] at K
  have HK := hid K
  clear K
  obtain ⟨⟨a0, a1, a2, a3⟩, ⟨x0, x1, x2, x3⟩, q0, q1, q2, q3, q4, q5, q6⟩ := FC.out w12 h12
  go_wp2_with fail
  clear a0 a1 a2 a3 x0 x1 x2 x3 q0 q1 q2 q3 q4 q5 q6
  refine HK.out.mono ?_
  clear HK
  rintro e w13 ⟨r13, rfl, h, hf13⟩
  obtain ⟨T1, t1, T2, t2, ts, rfl, hT1, hT2, hT3⟩ := hf13
  have h13 := h12.trans h
  have Y13 := Y12.trans h
  clear h
  obtain ⟨w14, hW14⟩ : ∃ x, w13.alloc (.cells #[.int .i64 TC.ev, .slice T1 TC.bs.length t1, .int .i64 TC.wi, .slice T2 TC.cl.length t2] 26) = x := ⟨_, rfl⟩
  obtain ⟨Bm, hBm⟩ : ∃ x, w13.heap.size = x := ⟨_, rfl⟩
  have hz14 : Ext w13 w14 := by rw [← hW14]; exact Ext.alloc (Ext.refl _) _
  have h14 := h13.trans hz14
  have Y14 := Y13.trans hz14
  have HBm : Hid (∀ w', Ext w14 w' → w'.heap[Bm]? = some (.cells #[.int .i64 TC.ev, .slice T1 TC.bs.length t1, .int .i64 TC.wi, .slice T2 TC.cl.length t2] 26 (0, 0))) := fun w' h => by
    have h1 : w14.heap[Bm]? = some (.cells #[.int .i64 TC.ev, .slice T1 TC.bs.length t1, .int .i64 TC.wi, .slice T2 TC.cl.length t2] 26 (0, 0)) := by rw [← hW14, ← hBm]; exact World.alloc_heap_new _ _
    exact (Below.block h _ (Array.getElem?_eq_some_iff.1 h1).1).trans h1
  have K := bel_call _ c (some ⟨gd, 0, none⟩) kd row w14 (HO.out w14 h14) HSZ.out (HD.out w14 h14) (by have := HLL.out; omega) HKD.out
  rw [HT.out, HBC.out] at K
  have HK := hid K
  clear K
  obtain ⟨⟨a0, a1, a2, a3⟩, ⟨x0, x1, x2, x3⟩, q0, q1, q2, q3, q4, q5, q6⟩ := FC.out w14 h14
  go_wp2_with fail
  clear a0 a1 a2 a3 x0 x1 x2 x3 q0 q1 q2 q3 q4 q5 q6
  refine HK.out.mono ?_
  clear HK hW14 hBm
  rintro e w15 ⟨r15, rfl, h, hf15⟩
  obtain ⟨E1, e1, E2, e2, es, rfl, hE1, hE2, hE3⟩ := hf15
  have h15 := h14.trans h
  have Y15 := Y14.trans h
  have Z15 : Ext w14 w15 := h
  clear h
  obtain ⟨w16, hW16⟩ : ∃ x, w15.alloc (.cells #[.int .i64 BC.ev, .slice E1 BC.bs.length e1, .int .i64 BC.wi, .slice E2 BC.cl.length e2] 26) = x := ⟨_, rfl⟩
  obtain ⟨Bq, hBq⟩ : ∃ x, w15.heap.size = x := ⟨_, rfl⟩
  have hz16 : Ext w15 w16 := by rw [← hW16]; exact Ext.alloc (Ext.refl _) _
  have h16 := h15.trans hz16
  have Y16 := Y15.trans hz16
  have HBq : Hid (∀ w', Ext w16 w' → w'.heap[Bq]? = some (.cells #[.int .i64 BC.ev, .slice E1 BC.bs.length e1, .int .i64 BC.wi, .slice E2 BC.cl.length e2] 26 (0, 0))) := fun w' h => by
    have h1 : w16.heap[Bq]? = some (.cells #[.int .i64 BC.ev, .slice E1 BC.bs.length e1, .int .i64 BC.wi, .slice E2 BC.cl.length e2] 26 (0, 0)) := by rw [← hW16, ← hBq]; exact World.alloc_heap_new _ _
    exact (Below.block h _ (Array.getElem?_eq_some_iff.1 h1).1).trans h1
  obtain ⟨w17, hW17⟩ : ∃ x, (w16.alloc (.cells #[.int .i64 0, .slice none 0 0, .int .i64 0, .slice none 0 0] 26)).alloc (.cells #[.int .i64 0, .slice none 0 0, .int .i64 0, .slice none 0 0] 26) = x := ⟨_, rfl⟩
  obtain ⟨Bt, hBt⟩ : ∃ x, w16.heap.size = x := ⟨_, rfl⟩
  have hz17 : Ext w16 w17 := by rw [← hW17]; exact Ext.alloc (Ext.alloc (Ext.refl _) _) _
  have h17 := h16.trans hz17
  have Y17 := Y16.trans hz17
  have Z16 := Z15.trans hz16
  have Z17 := Z16.trans hz17
  have GT : w17.heap[Bt]? = some (.cells #[.int .i64 0, .slice none 0 0, .int .i64 0, .slice none 0 0] 26 (0, 0)) := by
    rw [← hW17, ← hBt, Below.heap_alloc _ _ _ (by simp)]; exact World.alloc_heap_new _ _
  have GL : w17.heap[Bt + 1]? = some (.cells #[.int .i64 0, .slice none 0 0, .int .i64 0, .slice none 0 0] 26 (0, 0)) := by
    have h := World.alloc_heap_new (w16.alloc (.cells #[.int .i64 0, .slice none 0 0, .int .i64 0, .slice none 0 0] 26)) (.cells #[.int .i64 0, .slice none 0 0, .int .i64 0, .slice none 0 0] 26)
    rw [World.size_alloc] at h
    rw [← hW17, ← hBt]; exact h
  obtain ⟨⟨a0, a1, a2, a3⟩, ⟨x0, x1, x2, x3⟩, q0, q1, q2, q3, q4, q5, q6⟩ := FC.out w17 h17
  go_upto_if 71 with fail
  go_cut [17, 20, 21] (fun s17 s20 s21 wx => s20 = .int .i64 U ∧ s21 = .int .i64 V ∧ Ext w16 wx ∧ (∃ A7 k7, s17 = .slice A7 AL.length k7 ∧ Bounds wx A7 AL) ∧ CaseAt2 wx Bt TC ∧ CaseAt2 wx (Bt + 1) BC)
  case first =>
    by_cases hM0 : M = 0
    case neg =>
      have b1 : (M == 0) = false := by simpa using hM0
      obtain ⟨m1, m2, m3, m4, m5⟩ := told_M (b := ⟨bf, bt, bm⟩) (W := row) HM.out hM0
      rw [HU.out] at m1
      rw [HT.out] at m2
      rw [HTC.out] at m3
      rw [HBC.out] at m4
      rw [HAL.out] at m5
      subst m1 m2 m3 m4 m5
      go_wp2_with fail
      go_meet
      exact ⟨rfl, rfl, hz17, ⟨none, 0, rfl, Bounds.nil _ _⟩, nil_at GT, nil_at GL⟩
    subst hM0
    clear a0 a1 a2 a3 x0 x1 x2 x3 q0 q1 q2 q3 q4 q5 q6
    have H0 : Hid (checkC c = 0) := HM.out
    have hev := checkC_ev H0.out
    have hal : AL = c.all := by rw [← HAL.out]; unfold allK; rw [if_pos H0.out]
    subst hal
    have K := refall_any _ c w17 (HXX.out w17 h17) (sized_all H0.out).1 HSZ.out
    have HK := hid K
    clear K
    obtain ⟨⟨a0, a1, a2, a3⟩, ⟨x0, x1, x2, x3⟩, q0, q1, q2, q3, q4, q5, q6⟩ := FC.out w17 h17
    go_wp2_with fail
    clear a0 a1 a2 a3 x0 x1 x2 x3 q0 q1 q2 q3 q4 q5 q6
    refine HK.out.mono ?_
    clear HK
    rintro e w18 ⟨A7, k7, rfl, ho7, hx18⟩
    have hb7 : Bounds w18 A7 c.all := Rd.of_own ho7
    have HB7 : Hid (∀ w', Ext w18 w' → Bounds w' A7 c.all) := fun w' h => hb7.ext h
    have h18 := h17.trans hx18
    have HA7B : Hid (∀ a : Addr, A7 = some a → Bt + 1 < a.block) := fun a ha => by
      have h9 := (Array.getElem?_eq_some_iff.1 GL).1
      subst ha
      rcases ho7.2 with ⟨h, _⟩ | ⟨g9, _, _, h, hg9, _⟩
      · cases h
      · cases h
        show Bt + 1 < g9
        omega
    obtain ⟨w19, hW19⟩ : ∃ x, w18.alloc (.cells #[.int .i64 bf, .int .i64 bt, .int .i64 bm] 114) = x := ⟨_, rfl⟩
    obtain ⟨Bb1, hBb1⟩ : ∃ x, w18.heap.size = x := ⟨_, rfl⟩
    have hz19 : Ext w18 w19 := by rw [← hW19]; exact Ext.alloc (Ext.refl _) _
    have hBd : Bounds w19 (some ⟨Bb1, 0, none⟩) [⟨bf, bt, bm⟩] := by rw [← hW19, ← hBb1]; exact rd_block (heap_alloc_new w18 _)
    have h19 := h18.trans hz19
    have K := refbad_any (some ⟨Bb1, 0, none⟩) 1 [⟨bf, bt, bm⟩] c.ev w19 hBd (by simp) hev.1 hev.2
    have HUV : Hid (U = if badR c.ev [⟨bf, bt, bm⟩] ≠ 0 then badR c.ev [⟨bf, bt, bm⟩] else if c.bs.length = 20 then 2 else 0) := by unfold Hid; rw [← HU.out, told_u H0.out]
    obtain ⟨B1, hB1⟩ : ∃ x, badR c.ev [⟨bf, bt, bm⟩] = x := ⟨_, rfl⟩
    rw [hB1] at K HUV
    change Calls Try.prog 68 #[.slice (some ⟨Bb1, 0, none⟩) 1 1, .int .i64 c.ev] w19 _ at K
    have HK := hid K
    clear K hB1 ho7 hb7 hBd
    obtain ⟨-, -, q0, q1, q2, q3, q4, q5, q6⟩ := FC.out w18 h18
    obtain ⟨-, -, r0, r1, r2, r3, r4, r5, r6⟩ := FC.out w19 h19
    go_wp2_with fail
    clear q0 q1 q2 q3 q4 q5 q6 r0 r1 r2 r3 r4 r5 r6 hW19 hBb1
    refine HK.out.mono ?_
    clear HK
    rintro e w20 ⟨rfl, hx20⟩
    have h20 := h19.trans hx20
    have z20 : Ext w18 w20 := hz19.trans hx20
    have zz20 : Ext w17 w20 := hx18.trans z20
    have Z20 := hid z20
    clear hx18 hz19 hx20 h18 h19 z20
    have HBW : Hid (∀ w', Ext w20 w' → Bounds w' A7 c.all) := fun w' h => HB7.out w' (Z20.out.trans h)
    obtain ⟨⟨a0, a1, a2, a3⟩, ⟨x0, x1, x2, x3⟩, q0, q1, q2, q3, q4, q5, q6⟩ := FC.out w20 h20
    go_upto_region 16 with fail
    go_cut [86] (fun s86 wx => ∃ bb : Bool, s86 = .bool bb ∧ Hid (U = if bb then 2 else B1) ∧ w20 = wx)
    case first =>
      by_cases hb0 : B1 = 0
      · subst hb0
        by_cases h2 : c.bs.length = 20
        · have b5 : ((c.bs.length : Int) == 20) = true := by simp; omega
          have HE : Hid (U = 2) := by unfold Hid; rw [HUV.out, if_neg (by simp), if_pos h2]
          clear h2
          go_wp2_with fail
          go_meet
          exact ⟨true, rfl, HE, rfl⟩
        · have b5 : ((c.bs.length : Int) == 20) = false := by simp; omega
          have HE : Hid (U = 0) := by unfold Hid; rw [HUV.out, if_neg (by simp), if_neg h2]
          clear h2
          go_wp2_with fail
          go_meet
          exact ⟨false, rfl, HE, rfl⟩
      · have b5 : (B1 == 0) = false := by simpa using hb0
        have HE : Hid (U = B1) := by unfold Hid; rw [HUV.out, if_pos hb0]
        go_wp2_with fail
        go_meet
        exact ⟨false, rfl, HE, rfl⟩
    case rest =>
      obtain ⟨bb, rfl, HB0, hwc⟩ := hcut
      subst hwc
      go_upto_if 86 with fail
      go_cut [20] (fun s20 wx => s20 = .int .i64 U ∧ w20 = wx)
      case first =>
        cases bb
        · go_wp2_with fail
          go_meet
          exact ⟨by rw [show U = B1 from HB0.out], rfl⟩
        · go_wp2_with fail
          go_meet
          exact ⟨by rw [show U = 2 from HB0.out], rfl⟩
      case rest =>
        obtain ⟨rfl, hwc⟩ := hcut
        subst hwc
        clear a0 a1 a2 a3 x0 x1 x2 x3 q0 q1 q2 q3 q4 q5 q6
        have hwi := (manyOK_parts (checkC_ok H0.out).1).2.2.2
        obtain ⟨N, hn⟩ : ∃ n : Nat, c.wi = n := ⟨c.wi.toNat, by omega⟩
        have hN6 : N ≤ 6 := by omega
        have HN := hid hn
        have hmk := fun w => run_make_row' (P := Try.prog) 77 4 (.bool false) 1 Try.underlying77 infoBool rfl .i64 .i64 N (by omega) (by omega) w
        obtain ⟨-, -, q0, q1, q2, q3, q4, q5, q6⟩ := FC.out w20 h20
        rw [hn] at q2
        clear hn hwi
        go_wp2
        clear q0 q1 q2 q3 q4 q5 q6 hmk
        obtain ⟨w21, hW21⟩ : ∃ W2, w20.alloc (.cells (madeCells #[.bool false] N) 4) = W2 := ⟨_, rfl⟩
        obtain ⟨G, hG⟩ : ∃ G, w20.heap.size = G := ⟨_, rfl⟩
        have hz21 : Ext w20 w21 := by rw [← hW21]; exact Ext.alloc (Ext.refl _) _
        have hI0 : Brow w21 G (rl N (marks (row.take 0))) := by
          rw [← hG, List.take_zero, marks_nil, rl_const, ← hW21, made_brow]; exact World.alloc_heap_new _ _
        have hG2 : w20.heap.size ≤ G := by omega
        rw [hW21, hG]
        clear hW21 hG
        have HV0 : Hid (witE c.wi (row.take 0) (row.drop 0) = V) := by
          unfold Hid
          rw [← HT.out]
          unfold believeC
          rw [if_neg (by simp [H0.out])]
          rfl
        go_loopw [21, 92] (fun s21 i wr => ∃ (kk : Nat) (vv : Int), kk ≤ row.length ∧ i = .int .i64 (kk : Int) ∧ s21 = .int .i64 vv ∧ Ext w20 wr ∧ ((vv = 0 ∧ Brow wr G (rl N (marks (row.take kk))) ∧ Hid (witE c.wi (row.take kk) (row.drop kk) = V)) ∨ (vv ≠ 0 ∧ Hid (vv = V)))) (fun _ i _ => row.length - (intOf i).toNat)
        case atStart => exact ⟨0, 0, Nat.zero_le _, rfl, rfl, hz21, .inl ⟨rfl, hI0, HV0⟩⟩
        case round =>
          obtain ⟨kk, vv, hk, rfl, rfl, hx, hst⟩ := hrel
          by_cases hlt : kk < row.length
          · have hlt' : (kk : Int) < (row.length : Int) := by omega
            obtain ⟨x, hxk⟩ := get_of_lt row kk hlt
            obtain ⟨b1, o1, e1, cx⟩ := (HA'.out wr (h20.trans hx)).at_ hxk
            cases e1
            rcases hst with ⟨rfl, hI, HW⟩ | ⟨hv0, HW⟩
            · have hdr : row.drop kk = x :: row.drop (kk + 1) := by
                rw [List.drop_eq_getElem_cons hlt, (List.getElem?_eq_some_iff.1 hxk).2]
              have HTK := hid (take_next hxk)
              have HWE : Hid ((if !inB x 0 (c.wi - 1) then 1 else if memI x (row.take kk) then 5 else witE c.wi (row.take kk ++ [x]) (row.drop (kk + 1))) = V) := by
                unfold Hid
                rw [← HW.out, hdr]
                rfl
              clear hdr hxk HW
              have hcw : c.wi = (N : Int) := HN.out
              by_cases hx0 : x < 0
              · have HE : Hid ((1 : Int) = V) := by
                  unfold Hid
                  rw [← HWE.out, if_pos (by rw [Bool.not_eq_true', inB_not]; omega)]
                clear hcw
                go_wp2
                go_roundw
                case rel => exact ⟨kk + 1, 1, by omega, by go_num, rfl, hx, .inr ⟨by decide, HE⟩⟩
                case measure => simp [intOf]; omega
              · by_cases hx1 : (N : Int) ≤ x
                · have HE : Hid ((1 : Int) = V) := by
                    unfold Hid
                    rw [← HWE.out, if_pos (by rw [Bool.not_eq_true', inB_not]; omega)]
                  clear hcw
                  go_wp2
                  go_roundw
                  case rel => exact ⟨kk + 1, 1, by omega, by go_num, rfl, hx, .inr ⟨by decide, HE⟩⟩
                  case measure => simp [intOf]; omega
                · obtain ⟨xn, rfl⟩ : ∃ n : Nat, x = n := ⟨x.toNat, by omega⟩
                  have hxn : xn < N := by omega
                  have hin : inB (xn : Int) 0 (c.wi - 1) = true := inB_iff.2 ⟨by omega, by omega⟩
                  have cb := hI.at_ (rl_get (marks (row.take kk)) hxn)
                  have hfz := hI.frozen xn
                  have hxi : ¬ (N : Int) ≤ (xn : Int) := by omega
                  have hxi2 : (xn : Int) < (N : Int) := by omega
                  cases hq : marks (row.take kk) xn
                  · have HE : Hid (witE c.wi (row.take (kk + 1)) (row.drop (kk + 1)) = V) := by
                      unfold Hid
                      rw [← HWE.out, hin]
                      have hq2 : memI (xn : Int) (row.take kk) = false := hq
                      rw [hq2, HTK.out]
                      rfl
                    rw [hq] at cb
                    have hI2 := hI.set xn true
                    rw [← rl_upd, marks_upd, ← HTK.out] at hI2
                    have HI2 := hid hI2
                    clear hI2 hI hin hcw hq hxn
                    go_wp2
                    go_roundw
                    case rel => exact ⟨kk + 1, 0, by omega, by go_num, rfl, hx.setCell hG2 _, .inl ⟨rfl, HI2.out, HE⟩⟩
                    case measure => simp [intOf]; omega
                  · have HE : Hid ((5 : Int) = V) := by
                      unfold Hid
                      rw [← HWE.out, hin]
                      have hq2 : memI (xn : Int) (row.take kk) = true := hq
                      rw [hq2]
                      rfl
                    rw [hq] at cb
                    clear hI hin hcw hq hxn
                    go_wp2
                    go_roundw
                    case rel => exact ⟨kk + 1, 5, by omega, by go_num, rfl, hx, .inr ⟨by decide, HE⟩⟩
                    case measure => simp [intOf]; omega
            · have bv : (vv != 0) = true := by simpa using hv0
              have HV9 := hid hv0
              clear hxk hv0
              go_wp2
              go_roundw
              case rel => exact ⟨kk + 1, vv, by omega, by go_num, rfl, hx, .inr ⟨HV9.out, HW⟩⟩
              case measure => simp [intOf]; omega
          · have hlt' : ¬ (kk : Int) < (row.length : Int) := by omega
            obtain rfl : kk = row.length := by omega
            have hvV : vv = V := by
              rcases hst with ⟨rfl, _, HW⟩ | ⟨_, HW⟩
              · have h := HW.out
                rw [List.drop_eq_nil_of_le (Nat.le_refl _)] at h
                exact h
              · exact HW.out
            subst hvV
            have HMK : Hid (vv = 0 → Brow wr G (rl N (marks row))) := fun h0 => by
              rcases hst with ⟨_, hI, _⟩ | ⟨h1, _⟩
              · rw [List.take_length] at hI; exact hI
              · exact absurd h0 h1
            clear hst
            have hWr : Ext w17 wr := zz20.trans hx
            have gt0 : wr.heap[Bt]? = some (.cells #[.int .i64 0, .slice none 0 0, .int .i64 0, .slice none 0 0] 26 (0, 0)) := (Below.block hWr _ (Array.getElem?_eq_some_iff.1 GT).1).trans GT
            have gl0 : wr.heap[Bt + 1]? = some (.cells #[.int .i64 0, .slice none 0 0, .int .i64 0, .slice none 0 0] 26 (0, 0)) := (Below.block hWr _ (Array.getElem?_eq_some_iff.1 GL).1).trans GL
            have hBtw : w16.heap.size ≤ Bt := by omega
            have HGn : Hid (Wn.heap.size ≤ Bt) := by have := h16.size; unfold Hid; omega
            have hq16 : Ext w16 wr := hz17.trans hWr
            have hnr : Ext Wn wr := h16.trans hq16
            have HB9 : Hid (Bounds wr A7 c.all) := HBW.out wr hx
            have hGne : G ≠ Bt ∧ G ≠ Bt + 1 := by
              have h1 := zz20.size
              have h2 := (Array.getElem?_eq_some_iff.1 GL).1
              exact ⟨by omega, by omega⟩
            clear hk hlt hlt' hx hWr
            go_upto_if 118 with fail
            go_cut [20] (fun s20 wx => s20 = .int .i64 U ∧ Ext w16 wx ∧ (∀ w', BelS (fun k => k = Bt + 1) wx w' → CaseAt2 w' Bt TC) ∧ wx.heap[Bt + 1]? = some (.cells #[.int .i64 0, .slice none 0 0, .int .i64 0, .slice none 0 0] 26 (0, 0)) ∧ (vv = 0 → Brow wx G (rl N (marks row))) ∧ Bounds wx A7 c.all)
            case first =>
              as_aux_lemma =>
                by_cases hU0 : U = 0
                case neg =>
                  have bU : (U == 0) = false := by simpa using hU0
                  have e9 : TC = nilC := by rw [← HTC.out]; unfold toldK; rw [HU.out, if_neg hU0]
                  subst e9
                  go_wp2_with fail
                  go_meet
                  exact ⟨rfl, hq16, fun w' hk => nil_at (hk.heap gt0 (by omega)), gl0, HMK.out, HB9.out⟩
                subst hU0
                have e9 : TC = c.add ⟨bf, bt, bm⟩ := by rw [← HTC.out]; unfold toldK; rw [HU.out, if_pos rfl]
                subst e9
                have K := own_any _ c wr (HV.out wr hnr) HL4.out.1 HL4.out.2 HL3.out
                unfold OwnPost at K
                have HK := hid K
                clear K
                obtain ⟨⟨a0, a1, a2, a3⟩, ⟨x0, x1, x2, x3⟩, q0, q1, q2, q3, q4, q5, q6⟩ := FC.out wr hnr
                go_wp2_with fail
                clear a0 a1 a2 a3 x0 x1 x2 x3 q0 q1 q2 q3 q4 q5 q6
                have hBw : Bt < wr.heap.size := (Array.getElem?_eq_some_iff.1 gt0).1
                refine HK.out.mono ?_
                clear HK
                rintro e w23 ⟨vO, rfl, hO, hx23⟩
                obtain ⟨o1, p1, o2, p2, gs, xs, rfl, hO1, hO2, hO3, hnd⟩ := hO
                have g23 : w23.heap[Bt]? = some (.cells #[.int .i64 0, .slice none 0 0, .int .i64 0, .slice none 0 0] 26 (0, 0)) := (Below.block hx23 _ hBw).trans gt0
                have h23 := (hnr).trans hx23
                have lo1 := (hO1.lt o1 rfl).1
                have lo2 := (hO2.lt o2 rfl).1
                have los := fun g hg => (hO3.lt g hg).1
                obtain ⟨w24, hW24⟩ : ∃ x, ((((w23.setCell ⟨Bt, 0, none⟩ (.int .i64 c.ev)).setCell ⟨Bt, 1, none⟩ (.slice (some ⟨o1, 0, none⟩) c.bs.length p1)).setCell ⟨Bt, 2, none⟩ (.int .i64 c.wi)).setCell ⟨Bt, 3, none⟩ (.slice (some ⟨o2, 0, none⟩) c.cl.length p2)) = x := ⟨_, rfl⟩
                have hb24 : BelS (fun k => k = Bt) w23 w24 := by rw [← hW24]; exact belS_store _ _ _ _ rfl
                have g24 : w24.heap[Bt]? = some (.cells #[.int .i64 c.ev, .slice (some ⟨o1, 0, none⟩) c.bs.length p1, .int .i64 c.wi, .slice (some ⟨o2, 0, none⟩) c.cl.length p2] 26 (0, 0)) := by rw [← hW24]; exact case_store _ _ _ _ g23
                have c0 := block_cell (i := 0) g23
                have c1 := block_cell (i := 1) g23
                have c2 := block_cell (i := 2) g23
                have c3 := block_cell (i := 3) g23
                have f0 := block_free (i := 0) g23
                have f1 := block_free (i := 1) g23
                have f2 := block_free (i := 2) g23
                have f3 := block_free (i := 3) g23
                simp only [List.getElem?_toArray, List.getElem?_cons_zero, List.getElem?_cons_succ] at c0 c1 c2 c3
                have k1 := block_cell (i := 1) g24
                have k2 := block_free (i := 1) g24
                simp only [List.getElem?_toArray, List.getElem?_cons_zero, List.getElem?_cons_succ] at k1
                have hne1 : o1 ≠ Bt := by omega
                have hO1b := hb24.own hO1 (fun g hg => by rw [show o1 = g by simpa [Value.ownBlock] using hg] at hne1; exact hne1)
                have hs23 := hx23.size
                have hsz24 := hb24.size
                have hx24 : Ext Wn w24 := ((Ext.belS (S := fun k => k = Bt) h23).trans hb24).ext fun k hk e => by have := HGn.out; omega
                obtain ⟨w25, hW25⟩ : ∃ x, w24.alloc (.cells #[.int .i64 bf, .int .i64 bt, .int .i64 bm] 35) = x := ⟨_, rfl⟩
                obtain ⟨B25, hB25⟩ : ∃ x, w24.heap.size = x := ⟨_, rfl⟩
                have hz25 : Ext w24 w25 := by rw [← hW25]; exact Ext.alloc (Ext.refl _) _
                have hO1c := hid (own_below hO1b hz25)
                have hRd : Rd w25 (some ⟨B25, 0, none⟩) (bcells [⟨bf, bt, bm⟩]) := by rw [← hW25, ← hB25]; exact rd_block (heap_alloc_new w24 _)
                have HRd := hid hRd
                have g25 : w25.heap[Bt]? = some (.cells #[.int .i64 c.ev, .slice (some ⟨o1, 0, none⟩) c.bs.length p1, .int .i64 c.wi, .slice (some ⟨o2, 0, none⟩) c.cl.length p2] 26 (0, 0)) := (Below.block hz25 _ (Array.getElem?_eq_some_iff.1 g24).1).trans g24
                have hbase : wr.heap.size ≤ w25.heap.size := by have := hz25.size; omega
                have hbyt : (c.bs.length + 1) * 24 ≤ 140737488355328 := by
                  have := (manyOK_parts (checkC_ok H0.out).1).2.2.1
                  omega
                obtain ⟨-, -, r0, r1, r2, r3, r4, r5, r6⟩ := FC.out w24 hx24
                clear hRd hO1b
                go_wp2_with (at_builtin; refine wpList_append_rd _ rfl _ _ 23 rfl elem_bound wr.heap.size _ c.bs.length (bcells c.bs) rfl hO1c.out _ 1 1 (bcells [⟨bf, bt, bm⟩]) rfl rfl HRd.out (bcells_one _) hbyt hbase ?_)
                intro A26 k26 w26 hown26 hbel26 hgr26 _
                have g26 : w26.heap[Bt]? = some (.cells #[.int .i64 c.ev, .slice (some ⟨o1, 0, none⟩) c.bs.length p1, .int .i64 c.wi, .slice (some ⟨o2, 0, none⟩) c.cl.length p2] 26 (0, 0)) := (Below.block hbel26 _ hBw).trans g25
                have m1 := block_cell (i := 1) g26
                have m2 := block_free (i := 1) g26
                simp only [List.getElem?_toArray, List.getElem?_cons_zero, List.getElem?_cons_succ] at m1
                have g27 := case_set1 (.slice A26 (c.bs.length + 1) k26) g26
                have hbb : BelS (fun k => k = o1 ∨ k = Bt) w23 (w26.setCell ⟨Bt, 1, none⟩ (.slice A26 (c.bs.length + 1) k26)) :=
                  ((((hb24.mono (fun k _ e => Or.inr e)).trans (Ext.belS hz25)).grown hgr26 (fun k e => .inl (by simpa [Value.ownBlock] using e.symm)))).setCell _ _ (.inr rfl)
                have hO2f : (w26.setCell ⟨Bt, 1, none⟩ (.slice A26 (c.bs.length + 1) k26)).ownsRow wr.heap.size 37 2 (.slice (some ⟨o2, 0, none⟩) c.cl.length p2) c.cl.length xs := hbb.own hO2 fun g hg => by
                    have e2 : o2 = g := by simpa [Value.ownBlock] using hg
                    subst e2
                    rintro (e | e)
                    · subst e
                      rcases hO1.2 with ⟨h, _⟩ | ⟨_, _, _, h, _, h3, _⟩
                      · cases h
                      · cases h
                        rcases hO2.2 with ⟨h, _⟩ | ⟨_, _, _, h, _, h4, _⟩
                        · cases h
                        · cases h
                          rw [h3] at h4
                          injection h4 with h5
                          injection h5 with _ h6
                          exact absurd h6 (by decide)
                    · omega
                have hO3f := hO3.belS hbb fun g hg => by
                    have h9 := los g hg
                    have h8 := (List.nodup_cons.1 hnd).1
                    rintro (e | e)
                    · subst e; exact h8 hg
                    · omega
                have hBo : Bounds (w26.setCell ⟨Bt, 1, none⟩ (.slice A26 (c.bs.length + 1) k26)) A26 (c.bs ++ [⟨bf, bt, bm⟩]) := by
                  have h1 := Rd.of_own hown26
                  have h2 : ∀ a, A26 = some a → a.block ≠ Bt := fun a ha => by
                    subst ha
                    rcases hown26.2 with ⟨h, _⟩ | ⟨g9, _, _, h, hg9, _⟩
                    · cases h
                    · cases h
                      show g9 ≠ Bt
                      omega
                  unfold Bounds
                  rw [bcells_app]
                  exact ((BelS.refl (fun k => k = Bt) w26).setCell ⟨Bt, 1, none⟩ _ rfl).rd h1 h2
                have hfin : Ext w16 (w26.setCell ⟨Bt, 1, none⟩ (.slice A26 (c.bs.length + 1) k26)) := ((Ext.belS (S := fun k => k = o1 ∨ k = Bt) (hq16.trans hx23)).trans hbb).ext fun k hk e => by
                  have h9 := hq16.size
                  rcases e with e | e <;> omega
                have hsw : wr.heap.size ≤ w23.heap.size := hs23
                have hG3 : vv = 0 → Brow (w26.setCell ⟨Bt, 1, none⟩ (.slice A26 (c.bs.length + 1) k26)) G (rl N (marks row)) := fun h0 => by
                  have h9 := HMK.out h0
                  have hl := h9.lt
                  exact (h9.ext hx23).belS hbb (fun e => by rcases e with e | e <;> omega)
                have hL3 : (w26.setCell ⟨Bt, 1, none⟩ (.slice A26 (c.bs.length + 1) k26)).heap[Bt + 1]? = some (.cells #[.int .i64 0, .slice none 0 0, .int .i64 0, .slice none 0 0] 26 (0, 0)) := by
                  have h9 := (Array.getElem?_eq_some_iff.1 gl0).1
                  exact hbb.heap ((Below.block hx23 _ h9).trans gl0) (fun e => by rcases e with e | e <;> omega)
                have hA3 : Bounds (w26.setCell ⟨Bt, 1, none⟩ (.slice A26 (c.bs.length + 1) k26)) A7 c.all := by
                  rcases HB9.out with h | ⟨bb7, oo7, rfl, hcells⟩
                  · exact .inl h
                  · refine .inr ⟨bb7, oo7, rfl, fun j u hu => ?_⟩
                    have hc9 := hcells j u hu
                    have hlt9 := World.block_lt_of_cell? _ _ hc9
                    exact hbb.cell (hx23.cell hc9) (fun e => by
                      rcases e with e | e
                      · have : bb7 < wr.heap.size := hlt9
                        simp only at e; omega
                      · have h9 := HA7B.out ⟨bb7, oo7, none⟩ rfl
                        simp only at h9 e
                        omega)
                have hA26 : ∀ a : Addr, A26 = some a → a.block ≠ Bt + 1 := fun a ha => by
                  subst ha
                  rcases hown26.2 with ⟨h, _⟩ | ⟨g9, _, _, h, hg9, _⟩
                  · cases h
                  · cases h
                    have h9 := (Array.getElem?_eq_some_iff.1 gl0).1
                    show g9 ≠ Bt + 1
                    omega
                have hlt1 : Bt + 1 < wr.heap.size := (Array.getElem?_eq_some_iff.1 gl0).1
                have hCT : ∀ w', BelS (fun k => k = Bt + 1) (w26.setCell ⟨Bt, 1, none⟩ (.slice A26 (c.bs.length + 1) k26)) w' → CaseAt2 w' Bt (c.add ⟨bf, bt, bm⟩) := fun w' hk => by
                  refine ⟨A26, k26, some ⟨o2, 0, none⟩, p2, hk.heap (by simpa [Cs.add] using g27) (by omega), hk.rd hBo hA26, xs, Rd.of_own (hk.own hO2f fun g hg => ?_), (hO3f.belS hk fun g hg => ?_).toC⟩
                  · have e2 : o2 = g := by simpa [Value.ownBlock] using hg
                    omega
                  · have := los g hg
                    omega
                have HFIN : Hid (Ext w16 (w26.setCell ⟨Bt, 1, none⟩ (.slice A26 (c.bs.length + 1) k26)) ∧ ∀ w', BelS (fun k => k = Bt + 1) (w26.setCell ⟨Bt, 1, none⟩ (.slice A26 (c.bs.length + 1) k26)) w' → CaseAt2 w' Bt (c.add ⟨bf, bt, bm⟩)) := ⟨hfin, hCT⟩
                have H3 := hid hG3
                have H4 := hid hL3
                have H5 := hid hA3
                clear hbb hO2f hO3f hCT hA26 hBo hfin hG3 hL3 hA3 g27 hown26 hbel26 hgr26
                go_wp2_with fail
                go_meet
                exact ⟨rfl, HFIN.out.1, HFIN.out.2, H4.out, H3.out, H5.out⟩
            case rest =>
              obtain ⟨rfl, hx40, hTA, gl1, hMK, hA7⟩ := hcut
              have hn40 : Ext Wn wc := h16.trans hx40
              have hlt1 : Bt + 1 < wc.heap.size := (Array.getElem?_eq_some_iff.1 gl1).1
              by_cases hV0 : vv = 0
              case neg =>
                have bV : (vv == 0) = false := by simpa using hV0
                have e9 : BC = nilC := by rw [← HBC.out]; unfold belK; rw [HT.out, if_neg hV0]
                subst e9
                have HTA9 := hid (hTA wc (BelS.refl _ _))
                go_wp2_with fail
                go_meet
                exact ⟨rfl, rfl, hx40, ⟨A7, k7, rfl, hA7⟩, HTA9.out, nil_at gl1⟩
              subst hV0
              as_aux_lemma =>
                have e9 : BC = c.believe (fun x => memI x row) := by rw [← HBC.out]; unfold belK; rw [HT.out, if_pos rfl]
                subst e9
                have hmk0 := hMK rfl
                have K := own_any _ c wc (HV.out wc hn40) HL4.out.1 HL4.out.2 HL3.out
                unfold OwnPost at K
                have HK := hid K
                clear K
                obtain ⟨⟨a0, a1, a2, a3⟩, ⟨x0, x1, x2, x3⟩, q0, q1, q2, q3, q4, q5, q6⟩ := FC.out wc hn40
                go_wp2_with fail
                clear a0 a1 a2 a3 x0 x1 x2 x3 q0 q1 q2 q3 q4 q5 q6
                have hBw : Bt + 1 < wc.heap.size := (Array.getElem?_eq_some_iff.1 gl1).1
                refine HK.out.mono ?_
                clear HK
                rintro e w43 ⟨vO, rfl, hO, hx43⟩
                obtain ⟨o1, p1, o2, p2, gs, xs, rfl, hO1, hO2, hO3, hnd⟩ := hO
                have g43 : w43.heap[Bt + 1]? = some (.cells #[.int .i64 0, .slice none 0 0, .int .i64 0, .slice none 0 0] 26 (0, 0)) := (Below.block hx43 _ hBw).trans gl1
                have h43 := (hn40).trans hx43
                have lo1 := (hO1.lt o1 rfl).1
                have lo2 := (hO2.lt o2 rfl).1
                have los := fun g hg => (hO3.lt g hg).1
                obtain ⟨w44, hW44⟩ : ∃ x, ((((w43.setCell ⟨Bt + 1, 0, none⟩ (.int .i64 c.ev)).setCell ⟨Bt + 1, 1, none⟩ (.slice (some ⟨o1, 0, none⟩) c.bs.length p1)).setCell ⟨Bt + 1, 2, none⟩ (.int .i64 c.wi)).setCell ⟨Bt + 1, 3, none⟩ (.slice (some ⟨o2, 0, none⟩) c.cl.length p2)) = x := ⟨_, rfl⟩
                have hb44 : BelS (fun k => k = Bt + 1) w43 w44 := by rw [← hW44]; exact belS_store _ _ _ _ rfl
                have g44 : w44.heap[Bt + 1]? = some (.cells #[.int .i64 c.ev, .slice (some ⟨o1, 0, none⟩) c.bs.length p1, .int .i64 c.wi, .slice (some ⟨o2, 0, none⟩) c.cl.length p2] 26 (0, 0)) := by rw [← hW44]; exact case_store _ _ _ _ g43
                have c0 := block_cell (i := 0) g43
                have c1 := block_cell (i := 1) g43
                have c2 := block_cell (i := 2) g43
                have c3 := block_cell (i := 3) g43
                have f0 := block_free (i := 0) g43
                have f1 := block_free (i := 1) g43
                have f2 := block_free (i := 2) g43
                have f3 := block_free (i := 3) g43
                simp only [List.getElem?_toArray, List.getElem?_cons_zero, List.getElem?_cons_succ] at c0 c1 c2 c3
                have k1 := block_cell (i := 3) g44
                have k2 := block_free (i := 3) g44
                simp only [List.getElem?_toArray, List.getElem?_cons_zero, List.getElem?_cons_succ] at k1
                obtain ⟨w45, hW45⟩ : ∃ x, w44.setCell ⟨Bt + 1, 3, none⟩ (.slice none 0 0) = x := ⟨_, rfl⟩
                have hb45 : BelS (fun k => k = Bt + 1) w43 w45 := by rw [← hW45]; exact hb44.setCell _ _ rfl
                have g45 := case_set3 (.slice none 0 0) g44
                rw [hW45] at g45
                have hx45 : Ext Wn w45 := ((Ext.belS (S := fun k => k = Bt + 1) h43).trans hb45).ext fun k hk e => by have := HGn.out; omega
                have hs43 := hx43.size
                have hq45 : Ext w16 w45 := ((Ext.belS (S := fun k => k = Bt + 1) (hx40.trans hx43)).trans hb45).ext fun k hk e => by omega
                have hne1 : o1 ≠ Bt + 1 := by omega
                have hO1b := hid (Rd.of_own (hb45.own hO1 (fun g hg => by rw [show o1 = g by simpa [Value.ownBlock] using hg] at hne1; exact hne1)))
                have hwc45 : BelS (fun k => k = Bt + 1) wc w45 := (Ext.belS hx43).trans hb45
                have HWC := hid hwc45
                have HMK5 := hid ((hmk0.ext hx43).belS hb45 hGne.2)
                have HX45 := hid hx45
                have HQ45 := hid hq45
                obtain ⟨_, _, _, _, eV, hBn, hCn⟩ := HV.out Wn (Ext.refl _)
                cases eV
                have HCN := hid hCn
                have hz45 := hb45.size
                have HS45 : Hid (Bt + 1 < w45.heap.size) := by unfold Hid; omega
                obtain ⟨-, -, r0, r1, r2, r3, r4, r5, r6⟩ := FC.out w45 hx45
                clear hBn hCn hmk0 hwc45 hx45 hq45 hO1 hO2 hO3 hnd los
                go_wp2
                clear r0 r1 r2 r3 r4 r5 r6 c0 c1 c2 c3 f0 f1 f2 f3 k1 k2 hW44 hW45
                go_loopw [135] (fun i wr => ∃ (kk : Nat) (A5 : Option Addr) (k5 : Nat) (ys : List Value) (LL : List Cl), kk ≤ c.cl.length ∧ i = .int .i64 (kk : Int) ∧ Hid (LL = (c.cl.take kk).filter fun x => memI x.w row) ∧ wr.heap[Bt + 1]? = some (.cells #[.int .i64 c.ev, .slice (some ⟨o1, 0, none⟩) c.bs.length p1, .int .i64 c.wi, .slice A5 LL.length k5] 26 (0, 0)) ∧ Hid (wr.ownsRow w45.heap.size 37 2 (.slice A5 LL.length k5) LL.length ys) ∧ Hid (ClC Wn ys LL) ∧ BelS (fun k => k = Bt + 1) w45 wr) (fun i _ => c.cl.length - (intOf i).toNat)
                case atStart => exact ⟨0, none, 0, [], [], Nat.zero_le _, rfl, rfl, g45, own_nil _ _ _ _, trivial, BelS.refl _ _⟩
                case round =>
                  obtain ⟨kk, A5, k5, ys, LL, hk, rfl, HLQ, gB, O, HCC, hb⟩ := hrel
                  have hxn : Ext Wn wr := ((Ext.belS (S := fun k => k = Bt + 1) HX45.out).trans hb).ext fun k hk e => by have := HGn.out; omega
                  by_cases hlt : kk < c.cl.length
                  · have hlt' : (kk : Int) < (c.cl.length : Int) := by omega
                    obtain ⟨x, hxk⟩ := get_of_lt c.cl kk hlt
                    have HWX := wits H0.out x (mem_of_get hxk)
                    have HFT := hid (filter_take (P := fun x => memI x.w row) hxk)
                    obtain ⟨b9, off9, A9, c9, rfl, e0, e1, hB9⟩ := HCN.out.at_ hxk
                    have n0 := hxn.cell e0
                    have n1 := hxn.cell e1
                    obtain ⟨xw, xbs⟩ := x
                    simp only at HWX n0 n1 hB9
                    obtain ⟨xn, rfl⟩ : ∃ n : Nat, xw = n := ⟨xw.toNat, by omega⟩
                    have hcw : c.wi = (N : Int) := HN.out
                    have hxN : xn < N := by omega
                    have hxN2 : (xn : Int) < (N : Int) := by omega
                    have hlk : LL.length ≤ kk := by
                      rw [HLQ.out]
                      exact Nat.le_trans (List.length_filter_le _ _) (by rw [List.length_take]; omega)
                    have hcl8 := (manyOK_parts (checkC_ok H0.out).1).2.2.2.2.2.1
                    have mk := (HMK5.out.belS hb hGne.2).at_ (rl_get (marks row) hxN)
                    obtain ⟨w51, hW51⟩ : ∃ y, wr.alloc (.cells #[.int .i64 (xn : Int), .slice A9 xbs.length c9] 37) = y := ⟨_, rfl⟩
                    obtain ⟨Yb, hYb⟩ : ∃ y, wr.heap.size = y := ⟨_, rfl⟩
                    have hz51 : Ext wr w51 := by rw [← hW51]; exact Ext.alloc (Ext.refl _) _
                    have y0 : w51.cell? ⟨Yb, 0, none⟩ = some (.int .i64 (xn : Int)) := by rw [← hW51, ← hYb]; simp [go_sem]
                    have y1 : w51.cell? ⟨Yb, 1, none⟩ = some (.slice A9 xbs.length c9) := by rw [← hW51, ← hYb]; simp [go_sem]
                    have mk1 := hz51.cell mk
                    have hb51 : BelS (fun k => k = Bt + 1) w45 w51 := hb.trans (Ext.belS hz51)
                    clear hxk e0 e1 hcw hxN mk
                    cases hq : marks row xn
                    · rw [hq] at mk1
                      have HLN : Hid (LL = (c.cl.take (kk + 1)).filter fun x => memI x.w row) := by
                        unfold Hid
                        have hq2 : memI (xn : Int) row = false := hq
                        rw [HFT.out]
                        simp only [hq2]
                        rw [HLQ.out]; simp
                      have gB1 : w51.heap[Bt + 1]? = _ := (Below.block hz51 _ (Array.getElem?_eq_some_iff.1 gB).1).trans gB
                      have O1 := hid (own_below O.out hz51)
                      clear hq
                      go_wp2
                      go_roundw
                      case rel => exact ⟨kk + 1, A5, k5, ys, LL, by omega, by go_num, HLN, gB1, O1, HCC, hb51⟩
                      case measure => simp [intOf]; omega
                    · rw [hq] at mk1
                      have HLN : Hid (LL ++ [⟨(xn : Int), xbs⟩] = (c.cl.take (kk + 1)).filter fun x => memI x.w row) := by
                        unfold Hid
                        have hq2 : memI (xn : Int) row = true := hq
                        rw [HFT.out]
                        simp only [hq2]
                        rw [HLQ.out]; simp
                      have gB1 : w51.heap[Bt + 1]? = _ := (Below.block hz51 _ (Array.getElem?_eq_some_iff.1 gB).1).trans gB
                      have b3 := block_cell (i := 3) gB1
                      simp only [List.getElem?_toArray, List.getElem?_cons_zero, List.getElem?_cons_succ] at b3
                      obtain ⟨w52, hW52⟩ : ∃ y, w51.alloc (.cells #[.int .i64 (xn : Int), .slice A9 xbs.length c9] 37) = y := ⟨_, rfl⟩
                      obtain ⟨Y2, hY2⟩ : ∃ y, w51.heap.size = y := ⟨_, rfl⟩
                      have hz52 : Ext w51 w52 := by rw [← hW52]; exact Ext.alloc (Ext.refl _) _
                      have hRd : Rd w52 (some ⟨Y2, 0, none⟩) [.int .i64 (xn : Int), .slice A9 xbs.length c9] := by rw [← hW52, ← hY2]; exact rd_block (heap_alloc_new w51 _)
                      have HRd := hid hRd
                      have O2 := hid (own_below (own_below O.out hz51) hz52)
                      have gB2 : w52.heap[Bt + 1]? = _ := (Below.block hz52 _ (Array.getElem?_eq_some_iff.1 gB1).1).trans gB1
                      have hbase : w45.heap.size ≤ w52.heap.size := by have h1 := hb51.size; have h2 := hz52.size; omega
                      have hbyt : (LL.length + 1) * 32 ≤ 140737488355328 := by omega
                      have hb52 : BelS (fun k => k = Bt + 1) w45 w52 := hb51.trans (Ext.belS hz52)
                      have HCC2 : Hid (ClC Wn (ys ++ [.int .i64 (xn : Int), .slice A9 xbs.length c9]) (LL ++ [⟨(xn : Int), xbs⟩])) := HCC.out.app ⟨rfl, ⟨A9, c9, rfl, hB9⟩, trivial⟩
                      clear hq hRd
                      go_wp2_with (at_builtin; refine wpList_append_rd _ rfl _ _ 24 rfl elem_claim w45.heap.size _ LL.length ys rfl O2.out _ 1 1 [.int .i64 (xn : Int), .slice A9 xbs.length c9] rfl rfl HRd.out (by intro u hu; simp at hu; rcases hu with rfl | rfl <;> rfl) hbyt hbase ?_)
                      intro A53 k53 w53 hown53 hbel53 hgr53 _
                      have gB3 : w53.heap[Bt + 1]? = _ := (Below.block hbel53 _ HS45.out).trans gB2
                      have d3 := block_cell (i := 3) gB3
                      have d4 := block_free (i := 3) gB3
                      simp only [List.getElem?_toArray, List.getElem?_cons_zero, List.getElem?_cons_succ] at d3
                      have gB4 := case_set3 (.slice A53 (LL.length + 1) k53) gB3
                      have hb53 : BelS (fun k => k = Bt + 1) w45 (w53.setCell ⟨Bt + 1, 3, none⟩ (.slice A53 (LL.length + 1) k53)) := (belS_below hb52 hbel53).setCell _ _ rfl
                      have HLL1 : Hid ((LL ++ [(⟨(xn : Int), xbs⟩ : Cl)]).length = LL.length + 1) := by unfold Hid; simp
                      have O3 : Hid ((w53.setCell ⟨Bt + 1, 3, none⟩ (.slice A53 (LL.length + 1) k53)).ownsRow w45.heap.size 37 2 (.slice A53 (LL ++ [(⟨(xn : Int), xbs⟩ : Cl)]).length k53) (LL ++ [(⟨(xn : Int), xbs⟩ : Cl)]).length (ys ++ [.int .i64 (xn : Int), .slice A9 xbs.length c9])) := by
                        unfold Hid
                        rw [HLL1.out]
                        refine ((BelS.refl (fun k => k = Bt + 1) w53).setCell ⟨Bt + 1, 3, none⟩ _ rfl).own hown53 fun g hg => ?_
                        have h9 := (hown53.lt g hg).1
                        have h8 := HS45.out
                        omega
                      have gB5 : (w53.setCell ⟨Bt + 1, 3, none⟩ (.slice A53 (LL.length + 1) k53)).heap[Bt + 1]? = some (.cells #[.int .i64 c.ev, .slice (some ⟨o1, 0, none⟩) c.bs.length p1, .int .i64 c.wi, .slice A53 (LL ++ [(⟨(xn : Int), xbs⟩ : Cl)]).length k53] 26 (0, 0)) := by rw [HLL1.out]; exact gB4
                      clear hown53 hbel53 hgr53 O2 gB4
                      go_wp2
                      go_roundw
                      case rel => exact ⟨kk + 1, A53, k53, _, LL ++ [⟨(xn : Int), xbs⟩], by omega, by go_num, HLN, gB5, O3, HCC2, hb53⟩
                      case measure => simp [intOf]; omega
                  · have hlt' : ¬ (kk : Int) < (c.cl.length : Int) := by omega
                    have hLe : LL = c.cl.filter fun x => memI x.w row := by
                      rw [HLQ.out, List.take_of_length_le (by omega)]
                    have hbw : BelS (fun k => k = Bt + 1) wc wr := HWC.out.trans hb
                    have hfin : Ext w16 wr := ((Ext.belS (S := fun k => k = Bt + 1) HQ45.out).trans hb).ext fun k hk e => by omega
                    have hBo : Bounds wr (some ⟨o1, 0, none⟩) c.bs := hb.rd hO1b.out fun a ha => by cases ha; exact hne1
                    have hCC9 := HCC.out.ext hxn
                    have hRO := Rd.of_own O.out
                    subst hLe
                    have hCB : CaseAt2 wr (Bt + 1) (c.believe fun x => memI x row) := ⟨some ⟨o1, 0, none⟩, p1, A5, k5, gB, hBo, ys, hRO, hCC9⟩
                    have hA9 : Bounds wr A7 c.all := hbw.rd hA7 fun a ha => by have := HA7B.out a ha; omega
                    have HF := hid (And.intro hfin (And.intro hA9 (And.intro (hTA wr hbw) hCB)))
                    clear hfin hA9 hCB hBo hbw
                    go_wp2_with fail
                    go_meet
                    exact ⟨rfl, rfl, HF.out.1, ⟨A7, k7, rfl, HF.out.2.1⟩, HF.out.2.2.1, HF.out.2.2.2⟩
  case rest =>
    clear a0 a1 a2 a3 x0 x1 x2 x3 q0 q1 q2 q3 q4 q5 q6
    obtain ⟨rfl, rfl, hx30, ⟨A7, k7, rfl, hI7⟩, hTA, hBA⟩ := hcut
    have H1660 := hid hx30
    obtain ⟨w60, hw60⟩ : ∃ w60, w60 = wc := ⟨_, rfl⟩
    subst hw60
    have h60 := h16.trans hx30
    have Y60 := Y16.trans hx30
    have Z60 := Z16.trans hx30
    have X60 : Ext w60 w60 := Ext.refl _
    have V13 : Ext w13 w60 := hz14.trans Z60
    have V15 : Ext w15 w60 := hz16.trans hx30
    obtain ⟨TA1, ta1, TA2, ta2, gTA, bTA, cTA⟩ := hTA
    obtain ⟨BA1, ba1, BA2, ba2, gBA, bBA, cBA⟩ := hBA
    have n2 : (U != U) = false := by simp
    have n3 : (V != V) = false := by simp
    have HB4 : Hid (∀ w', Ext w60 w' → (w'.cell? ⟨Bm, 0, none⟩ = some (.int .i64 TC.ev) ∧ w'.cell? ⟨Bm, 1, none⟩ = some (.slice T1 TC.bs.length t1) ∧ w'.cell? ⟨Bm, 2, none⟩ = some (.int .i64 TC.wi) ∧ w'.cell? ⟨Bm, 3, none⟩ = some (.slice T2 TC.cl.length t2)) ∧ (w'.cell? ⟨Bt, 0, none⟩ = some (.int .i64 TC.ev) ∧ w'.cell? ⟨Bt, 1, none⟩ = some (.slice TA1 TC.bs.length ta1) ∧ w'.cell? ⟨Bt, 2, none⟩ = some (.int .i64 TC.wi) ∧ w'.cell? ⟨Bt, 3, none⟩ = some (.slice TA2 TC.cl.length ta2)) ∧ (w'.cell? ⟨Bq, 0, none⟩ = some (.int .i64 BC.ev) ∧ w'.cell? ⟨Bq, 1, none⟩ = some (.slice E1 BC.bs.length e1) ∧ w'.cell? ⟨Bq, 2, none⟩ = some (.int .i64 BC.wi) ∧ w'.cell? ⟨Bq, 3, none⟩ = some (.slice E2 BC.cl.length e2)) ∧ (w'.cell? ⟨Bt + 1, 0, none⟩ = some (.int .i64 BC.ev) ∧ w'.cell? ⟨Bt + 1, 1, none⟩ = some (.slice BA1 BC.bs.length ba1) ∧ w'.cell? ⟨Bt + 1, 2, none⟩ = some (.int .i64 BC.wi) ∧ w'.cell? ⟨Bt + 1, 3, none⟩ = some (.slice BA2 BC.cl.length ba2))) := fun w' h => by
      have g1 := HBm.out w' (Z60.trans h)
      have g2 := HBq.out w' (hx30.trans h)
      have g3 := (Below.block h _ (Array.getElem?_eq_some_iff.1 gTA).1).trans gTA
      have g4 := (Below.block h _ (Array.getElem?_eq_some_iff.1 gBA).1).trans gBA
      refine ⟨⟨?_, ?_, ?_, ?_⟩, ⟨?_, ?_, ?_, ?_⟩, ⟨?_, ?_, ?_, ?_⟩, ⟨?_, ?_, ?_, ?_⟩⟩
      · exact block_cell (i := 0) g1
      · exact block_cell (i := 1) g1
      · exact block_cell (i := 2) g1
      · exact block_cell (i := 3) g1
      · exact block_cell (i := 0) g3
      · exact block_cell (i := 1) g3
      · exact block_cell (i := 2) g3
      · exact block_cell (i := 3) g3
      · exact block_cell (i := 0) g2
      · exact block_cell (i := 1) g2
      · exact block_cell (i := 2) g2
      · exact block_cell (i := 3) g2
      · exact block_cell (i := 0) g4
      · exact block_cell (i := 1) g4
      · exact block_cell (i := 2) g4
      · exact block_cell (i := 3) g4
    have HM4 : Hid (∀ w', Ext w60 w' → CsR w' (.agg #[.int .i64 TC.ev, .slice T1 TC.bs.length t1, .int .i64 TC.wi, .slice T2 TC.cl.length t2]) TC) := fun w' h => ⟨T1, t1, T2, t2, rfl, (Rd.of_own hT1).ext (V13.trans h), ts, (Rd.of_own hT2).ext (V13.trans h), hT3.toC.ext (V13.trans h)⟩
    have HQ4 : Hid (∀ w', Ext w60 w' → CsR w' (.agg #[.int .i64 BC.ev, .slice E1 BC.bs.length e1, .int .i64 BC.wi, .slice E2 BC.cl.length e2]) BC) := fun w' h => ⟨E1, e1, E2, e2, rfl, (Rd.of_own hE1).ext (V15.trans h), es, (Rd.of_own hE2).ext (V15.trans h), hE3.toC.ext (V15.trans h)⟩
    have HT4 : Hid (∀ w', Ext w60 w' → CsR w' (.agg #[.int .i64 TC.ev, .slice TA1 TC.bs.length ta1, .int .i64 TC.wi, .slice TA2 TC.cl.length ta2]) TC) := fun w' h => ⟨TA1, ta1, TA2, ta2, rfl, bTA.ext h, cTA.ext h⟩
    have HL5 : Hid (∀ w', Ext w60 w' → CsR w' (.agg #[.int .i64 BC.ev, .slice BA1 BC.bs.length ba1, .int .i64 BC.wi, .slice BA2 BC.cl.length ba2]) BC) := fun w' h => ⟨BA1, ba1, BA2, ba2, rfl, bBA.ext h, cBA.ext h⟩
    have HAL2 : Hid (AL.length ≤ 52) := by
      unfold Hid
      rw [← HAL.out]
      unfold allK
      split
      · rename_i h0; exact checkC_52 h0
      · simp
    have HS1 : Hid TC.sized := by unfold Hid; rw [← HTC.out]; exact told_sized HSZ.out _
    have HS2 : Hid BC.sized := by unfold Hid; rw [← HBC.out]; exact believe_sized HSZ.out _
    have HB12 : Hid (∀ w', Ext w60 w' → Bounds w' A12 AL) := fun w' h => (Rd.of_own ho12).ext (Y60.trans h)
    have HB7 : Hid (∀ w', Ext w60 w' → Bounds w' A7 AL) := fun w' h => hI7.ext h
    -- the rows that will be cleared
    have HR0 : Hid (∀ w', Ext w60 w' → OwnR w' w11.heap.size A12 AL.length k12) := fun w' h => ⟨_, own_below ho12 (Y60.trans h)⟩
    have hs12 : w11.heap.size ≤ w12.heap.size := H1112.out
    have hs14 : w11.heap.size ≤ w14.heap.size := by have h1 := Y14.size; omega
    have HR1 : Hid (∀ w', Ext w60 w' → OwnR w' w11.heap.size T1 TC.bs.length t1) := fun w' h => OwnR.mono ⟨_, own_below hT1 (V13.trans h)⟩ hs12
    have HR2 : Hid (∀ w', Ext w60 w' → OwnR w' w11.heap.size E1 BC.bs.length e1) := fun w' h => OwnR.mono ⟨_, own_below hE1 (V15.trans h)⟩ hs14
    have HR3 : Hid (∀ w', Ext w60 w' → w'.ownsRow w12.heap.size 37 2 (.slice T2 TC.cl.length t2) TC.cl.length ts) := fun w' h => own_below hT2 (V13.trans h)
    have HR4 : Hid (∀ w', Ext w60 w' → w'.ownsRow w14.heap.size 37 2 (.slice E2 BC.cl.length e2) BC.cl.length es) := fun w' h => own_below hE2 (V15.trans h)
    have HR5 : Hid (∀ w', Ext w60 w' → ∀ (k : Nat) (x : Cl), TC.cl[k]? = some x → ts[k * 2]? = some (.int .i64 x.w) ∧ ∃ A9 c9, ts[k * 2 + 1]? = some (.slice A9 x.bs.length c9) ∧ OwnR w' w11.heap.size A9 x.bs.length c9) := fun w' h k x hk => by
      obtain ⟨i1, A9, c9, i2, i3⟩ := hT3.get k x hk
      exact ⟨i1, A9, c9, i2, OwnR.mono ⟨_, own_below i3 (V13.trans h)⟩ hs12⟩
    have HR6 : Hid (∀ w', Ext w60 w' → ∀ (k : Nat) (x : Cl), BC.cl[k]? = some x → es[k * 2]? = some (.int .i64 x.w) ∧ ∃ A9 c9, es[k * 2 + 1]? = some (.slice A9 x.bs.length c9) ∧ OwnR w' w11.heap.size A9 x.bs.length c9) := fun w' h k x hk => by
      obtain ⟨i1, A9, c9, i2, i3⟩ := hE3.get k x hk
      exact ⟨i1, A9, c9, i2, OwnR.mono ⟨_, own_below i3 (V15.trans h)⟩ hs14⟩
    have HY : Hid (Ext w11 w60) := H11E.out.trans Y60
    clear hT1 hT2 hT3 hE1 hE2 hE3 bTA cTA bBA cBA hI7 gTA gBA ho12 hb12 hx30 V13 V15 GT GL
    have K := bounded_any A12 k12 AL w60 (HB12.out w60 X60) (by have := HAL2.out; omega)
    have HK := hid K
    clear K
    obtain ⟨⟨a0, a1, a2, a3⟩, ⟨x0, x1, x2, x3⟩, q0, q1, q2, q3, q4, q5, q6⟩ := FC.out w60 h60
    go_wp2_with fail
    clear a0 a1 a2 a3 x0 x1 x2 x3 q0 q1 q2 q3 q4 q5 q6
    refine HK.out.mono ?_
    clear HK
    rintro e w61 ⟨A61, k61, rfl, ho61, h⟩
    have h61 := h60.trans h
    have X61 := X60.trans h
    clear h
    have HB61 : Hid (∀ w', Ext w61 w' → Bounds w' A61 AL) := fun w' h => (Rd.of_own ho61).ext h
    clear ho61
    have K := eq_rbd A61 A7 k61 k7 AL w61 (HB61.out w61 (Ext.refl _)) (HB7.out w61 X61) (by have := HAL2.out; omega)
    have HK := hid K
    clear K
    obtain ⟨⟨a0, a1, a2, a3⟩, ⟨x0, x1, x2, x3⟩, q0, q1, q2, q3, q4, q5, q6⟩ := FC.out w61 h61
    go_wp2_with fail
    clear a0 a1 a2 a3 x0 x1 x2 x3 q0 q1 q2 q3 q4 q5 q6
    refine HK.out.mono ?_
    clear HK
    rintro e w62 ⟨rfl, h⟩
    have h62 := h61.trans h
    have X62 := X61.trans h
    clear h
    have K := same_yes (.agg #[.int .i64 TC.ev, .slice T1 TC.bs.length t1, .int .i64 TC.wi, .slice T2 TC.cl.length t2]) (.agg #[.int .i64 TC.ev, .slice TA1 TC.bs.length ta1, .int .i64 TC.wi, .slice TA2 TC.cl.length ta2]) TC w62 (HM4.out w62 X62) (HT4.out w62 X62) HS1.out
    have HK := hid K
    clear K
    obtain ⟨⟨s0, s1, s2, s3⟩, ⟨s4, s5, s6, s7⟩, ⟨s8, s9, s10, s11⟩, s12, s13, s14, s15⟩ := HB4.out w62 X62
    go_wp2_with fail
    clear s0 s1 s2 s3 s4 s5 s6 s7 s8 s9 s10 s11 s12 s13 s14 s15
    refine HK.out.mono ?_
    clear HK
    rintro e w63 ⟨rfl, h⟩
    have h63 := h62.trans h
    have X63 := X62.trans h
    clear h
    have K := same_yes (.agg #[.int .i64 BC.ev, .slice E1 BC.bs.length e1, .int .i64 BC.wi, .slice E2 BC.cl.length e2]) (.agg #[.int .i64 BC.ev, .slice BA1 BC.bs.length ba1, .int .i64 BC.wi, .slice BA2 BC.cl.length ba2]) BC w63 (HQ4.out w63 X63) (HL5.out w63 X63) HS2.out
    have HK := hid K
    clear K
    obtain ⟨⟨s0, s1, s2, s3⟩, ⟨s4, s5, s6, s7⟩, ⟨s8, s9, s10, s11⟩, s12, s13, s14, s15⟩ := HB4.out w63 X63
    go_wp2_with fail
    clear s0 s1 s2 s3 s4 s5 s6 s7 s8 s9 s10 s11 s12 s13 s14 s15
    refine HK.out.mono ?_
    clear HK
    rintro e w64 ⟨rfl, h⟩
    have h64 := h63.trans h
    have X64 := X63.trans h
    clear h
    obtain ⟨w65, hcl65, hck65⟩ := clear_row (HR0.out w64 X64)
    obtain ⟨B0, hB0⟩ : ∃ x, w11.heap.size = x := ⟨_, rfl⟩
    rw [hB0] at hck65 HR1 HR2 HR5 HR6
    have gM : w65.heap[Bm]? = some (.cells #[.int .i64 TC.ev, .slice T1 TC.bs.length t1, .int .i64 TC.wi, .slice T2 TC.cl.length t2] 26 (0, 0)) := hck65.2.1 _ _ 26 (by decide) (HBm.out w64 (Z60.trans X64))
    have gQ : w65.heap[Bq]? = some (.cells #[.int .i64 BC.ev, .slice E1 BC.bs.length e1, .int .i64 BC.wi, .slice E2 BC.cl.length e2] 26 (0, 0)) := hck65.2.1 _ _ 26 (by decide) (HBq.out w64 (H1660.out.trans X64))
    have s0 := block_cell (i := 0) gM
    have s1 := block_cell (i := 1) gM
    have s2 := block_cell (i := 2) gM
    have s3 := block_cell (i := 3) gM
    have s4 := block_cell (i := 0) gQ
    have s5 := block_cell (i := 1) gQ
    have s6 := block_cell (i := 2) gQ
    have s7 := block_cell (i := 3) gQ
    simp only [List.getElem?_toArray, List.getElem?_cons_zero, List.getElem?_cons_succ] at s0 s1 s2 s3 s4 s5 s6 s7
    obtain ⟨w66, hW66⟩ : ∃ x, w65.alloc (.cells #[.int .i64 TC.ev, .slice T1 TC.bs.length t1, .int .i64 TC.wi, .slice T2 TC.cl.length t2, .int .i64 BC.ev, .slice E1 BC.bs.length e1, .int .i64 BC.wi, .slice E2 BC.cl.length e2] 26) = x := ⟨_, rfl⟩
    obtain ⟨Bk, hBk⟩ : ∃ x, w65.heap.size = x := ⟨_, rfl⟩
    have gK : w66.heap[Bk]? = some (.cells #[.int .i64 TC.ev, .slice T1 TC.bs.length t1, .int .i64 TC.wi, .slice T2 TC.cl.length t2, .int .i64 BC.ev, .slice E1 BC.bs.length e1, .int .i64 BC.wi, .slice E2 BC.cl.length e2] 26 (0, 0)) := by rw [← hW66, ← hBk]; exact World.alloc_heap_new _ _
    have hsB : B0 ≤ w65.heap.size := by
      have h1 := (HY.out.trans X64).size
      have h2 := hck65.1.size
      omega
    have hz66 : Ext w65 w66 := by rw [← hW66]; exact Ext.alloc (Ext.refl _) _
    have hck66 : CK B0 w64 w66 := hck65.trans (CK.of_ext hz66 hsB)
    have HCK := hid hck66
    have HS66 : Hid (B0 ≤ w66.heap.size) := by have := hz66.size; unfold Hid; omega
    have HXN4 : Hid (Ext w11 w64) := HY.out.trans X64
    go_wp2_with fail
    clear s0 s1 s2 s3 s4 s5 s6 s7 hcl65 hW66 hBk gM gQ
    go_loopw [188] (fun i wr => ∃ kk : Nat, kk ≤ 2 ∧ i = .int .i64 (kk : Int) ∧ CK B0 w66 wr) (fun i _ => 2 - (intOf i).toNat)
    case atStart => exact ⟨0, by omega, rfl, CK.refl _ _⟩
    case round =>
      obtain ⟨kk, hk, rfl, hck⟩ := hrel
      by_cases hlt : kk < 2
      · have gKr : wr.heap[Bk]? = some (.cells #[.int .i64 TC.ev, .slice T1 TC.bs.length t1, .int .i64 TC.wi, .slice T2 TC.cl.length t2, .int .i64 BC.ev, .slice E1 BC.bs.length e1, .int .i64 BC.wi, .slice E2 BC.cl.length e2] 26 (0, 0)) := hck.2.1 _ _ 26 (by decide) gK
        have s0 := block_cell (i := 0) gKr
        have s1 := block_cell (i := 1) gKr
        have s2 := block_cell (i := 2) gKr
        have s3 := block_cell (i := 3) gKr
        have s4 := block_cell (i := 4) gKr
        have s5 := block_cell (i := 5) gKr
        have s6 := block_cell (i := 6) gKr
        have s7 := block_cell (i := 7) gKr
        simp only [List.getElem?_toArray, List.getElem?_cons_zero, List.getElem?_cons_succ] at s0 s1 s2 s3 s4 s5 s6 s7
        obtain rfl | rfl : kk = 0 ∨ kk = 1 := by omega
        · have hlt' : ((0 : Nat) : Int) < 2 := by decide
          have hlen9 := HS1.out.2.1
          obtain ⟨w67, hW67⟩ : ∃ x, wr.alloc (.cells #[.int .i64 TC.ev, .slice T1 TC.bs.length t1, .int .i64 TC.wi, .slice T2 TC.cl.length t2] 26) = x := ⟨_, rfl⟩
          obtain ⟨Yb, hYb⟩ : ∃ x, wr.heap.size = x := ⟨_, rfl⟩
          have hz67 : Ext wr w67 := by rw [← hW67]; exact Ext.alloc (Ext.refl _) _
          have hsr : B0 ≤ wr.heap.size := Nat.le_trans HS66.out hck.1.size
          have hck67 : CK B0 w66 w67 := hck.trans (CK.of_ext hz67 hsr)
          have gY : w67.heap[Yb]? = some (.cells #[.int .i64 TC.ev, .slice T1 TC.bs.length t1, .int .i64 TC.wi, .slice T2 TC.cl.length t2] 26 (0, 0)) := by rw [← hW67, ← hYb]; exact World.alloc_heap_new _ _
          obtain ⟨w68, hcl68, hck68⟩ := clear_row ((HR1.out w64 X64).ck (HCK.out.trans hck67))
          have gY2 := hck68.2.1 _ _ 26 (by decide) gY
          have t0 := block_cell (i := 0) gY
          have t1' := block_cell (i := 1) gY
          have t2' := block_cell (i := 2) gY
          have t3 := block_cell (i := 3) gY
          have u0' := block_cell (i := 3) gY2
          simp only [List.getElem?_toArray, List.getElem?_cons_zero, List.getElem?_cons_succ] at t0 t1' t2' t3 u0'
          have hck68' : CK B0 w66 w68 := hck67.trans hck68
          go_wp2_with fail
          clear s0 s1 s2 s3 s4 s5 s6 s7 t0 t1' t2' t3 u0' hcl68 hW67 gY gY2
          obtain ⟨wo, rfl⟩ : ∃ wo : World, wo = wr := ⟨_, rfl⟩
          go_loopw [197] (fun i wr => ∃ jj : Nat, jj ≤ TC.cl.length ∧ i = .int .i64 (jj : Int) ∧ CK B0 w66 wr) (fun i _ => TC.cl.length - (intOf i).toNat)
          case atStart => exact ⟨0, Nat.zero_le _, rfl, hck68'⟩
          case round =>
            obtain ⟨jj, hj, rfl, hckr⟩ := hrel
            by_cases hltj : jj < TC.cl.length
            · have hltj' : (jj : Int) < (TC.cl.length : Int) := by omega
              obtain ⟨x, hxj⟩ := get_of_lt TC.cl jj hltj
              obtain ⟨i1, A9, c9, i2, i3⟩ := HR5.out w64 X64 jj x hxj
              have hrow := Rd.of_own (own_ck (HR3.out w64 X64) (HCK.out.trans hckr))
              rcases hrow with hnil | ⟨b9, o9, e9, hcells⟩
              · rw [hnil] at i1; simp at i1
              have m0 := hcells _ _ i1
              have m1 := hcells _ _ i2
              rw [← Nat.add_assoc] at m1
              cases e9
              obtain ⟨w70, hW70⟩ : ∃ x', wr.alloc (.cells #[.int .i64 x.w, .slice A9 x.bs.length c9] 37) = x' := ⟨_, rfl⟩
              obtain ⟨Zb, hZb⟩ : ∃ x, wr.heap.size = x := ⟨_, rfl⟩
              have hz70 : Ext wr w70 := by rw [← hW70]; exact Ext.alloc (Ext.refl _) _
              have hsr2 : B0 ≤ wr.heap.size := Nat.le_trans HS66.out hckr.1.size
              have hck70 : CK B0 w66 w70 := hckr.trans (CK.of_ext hz70 hsr2)
              have z1 : w70.cell? ⟨Zb, 1, none⟩ = some (.slice A9 x.bs.length c9) := by rw [← hW70, ← hZb]; simp [go_sem]
              obtain ⟨w71, hcl71, hck71⟩ := clear_row (i3.ck (HCK.out.trans hck70))
              have hck72 : CK B0 w66 w71 := hck70.trans hck71
              have HJ1 : Hid (jj + 1 ≤ TC.cl.length) := hltj
              clear hxj i1 i2 i3 hcells
              go_wp2
              go_roundw
              case rel => exact ⟨jj + 1, HJ1.out, by go_num, hck72⟩
              case measure => have := HJ1.out; simp [intOf]; omega
            · have hltj' : ¬ (jj : Int) < (TC.cl.length : Int) := by omega
              go_wp2
              go_roundw
              case rel => exact ⟨0 + 1, by omega, by go_num, hckr⟩
              case measure => simp [intOf]; try omega

        · have hlt' : ((1 : Nat) : Int) < 2 := by decide
          have hlen9 := HS2.out.2.1
          obtain ⟨w67, hW67⟩ : ∃ x, wr.alloc (.cells #[.int .i64 BC.ev, .slice E1 BC.bs.length e1, .int .i64 BC.wi, .slice E2 BC.cl.length e2] 26) = x := ⟨_, rfl⟩
          obtain ⟨Yb, hYb⟩ : ∃ x, wr.heap.size = x := ⟨_, rfl⟩
          have hz67 : Ext wr w67 := by rw [← hW67]; exact Ext.alloc (Ext.refl _) _
          have hsr : B0 ≤ wr.heap.size := Nat.le_trans HS66.out hck.1.size
          have hck67 : CK B0 w66 w67 := hck.trans (CK.of_ext hz67 hsr)
          have gY : w67.heap[Yb]? = some (.cells #[.int .i64 BC.ev, .slice E1 BC.bs.length e1, .int .i64 BC.wi, .slice E2 BC.cl.length e2] 26 (0, 0)) := by rw [← hW67, ← hYb]; exact World.alloc_heap_new _ _
          obtain ⟨w68, hcl68, hck68⟩ := clear_row ((HR2.out w64 X64).ck (HCK.out.trans hck67))
          have gY2 := hck68.2.1 _ _ 26 (by decide) gY
          have t0 := block_cell (i := 0) gY
          have t1' := block_cell (i := 1) gY
          have t2' := block_cell (i := 2) gY
          have t3 := block_cell (i := 3) gY
          have u0' := block_cell (i := 3) gY2
          simp only [List.getElem?_toArray, List.getElem?_cons_zero, List.getElem?_cons_succ] at t0 t1' t2' t3 u0'
          have hck68' : CK B0 w66 w68 := hck67.trans hck68
          go_wp2_with fail
          clear s0 s1 s2 s3 s4 s5 s6 s7 t0 t1' t2' t3 u0' hcl68 hW67 gY gY2
          obtain ⟨wo, rfl⟩ : ∃ wo : World, wo = wr := ⟨_, rfl⟩
          go_loopw [197] (fun i wr => ∃ jj : Nat, jj ≤ BC.cl.length ∧ i = .int .i64 (jj : Int) ∧ CK B0 w66 wr) (fun i _ => BC.cl.length - (intOf i).toNat)
          case atStart => exact ⟨0, Nat.zero_le _, rfl, hck68'⟩
          case round =>
            obtain ⟨jj, hj, rfl, hckr⟩ := hrel
            by_cases hltj : jj < BC.cl.length
            · have hltj' : (jj : Int) < (BC.cl.length : Int) := by omega
              obtain ⟨x, hxj⟩ := get_of_lt BC.cl jj hltj
              obtain ⟨i1, A9, c9, i2, i3⟩ := HR6.out w64 X64 jj x hxj
              have hrow := Rd.of_own (own_ck (HR4.out w64 X64) (HCK.out.trans hckr))
              rcases hrow with hnil | ⟨b9, o9, e9, hcells⟩
              · rw [hnil] at i1; simp at i1
              have m0 := hcells _ _ i1
              have m1 := hcells _ _ i2
              rw [← Nat.add_assoc] at m1
              cases e9
              obtain ⟨w70, hW70⟩ : ∃ x', wr.alloc (.cells #[.int .i64 x.w, .slice A9 x.bs.length c9] 37) = x' := ⟨_, rfl⟩
              obtain ⟨Zb, hZb⟩ : ∃ x, wr.heap.size = x := ⟨_, rfl⟩
              have hz70 : Ext wr w70 := by rw [← hW70]; exact Ext.alloc (Ext.refl _) _
              have hsr2 : B0 ≤ wr.heap.size := Nat.le_trans HS66.out hckr.1.size
              have hck70 : CK B0 w66 w70 := hckr.trans (CK.of_ext hz70 hsr2)
              have z1 : w70.cell? ⟨Zb, 1, none⟩ = some (.slice A9 x.bs.length c9) := by rw [← hW70, ← hZb]; simp [go_sem]
              obtain ⟨w71, hcl71, hck71⟩ := clear_row (i3.ck (HCK.out.trans hck70))
              have hck72 : CK B0 w66 w71 := hck70.trans hck71
              have HJ1 : Hid (jj + 1 ≤ BC.cl.length) := hltj
              clear hxj i1 i2 i3 hcells
              go_wp2
              go_roundw
              case rel => exact ⟨jj + 1, HJ1.out, by go_num, hck72⟩
              case measure => have := HJ1.out; simp [intOf]; omega
            · have hltj' : ¬ (jj : Int) < (BC.cl.length : Int) := by omega
              go_wp2
              go_roundw
              case rel => exact ⟨1 + 1, by omega, by go_num, hckr⟩
              case measure => simp [intOf]; try omega

      · have hlt' : ¬ (kk : Int) < 2 := by omega
        have hke : kk = 2 := by omega
        subst hke
        have hx9 : Ext w11 wr := Below.trans HXN4.out (by rw [hB0]; exact (HCK.out.trans hck).1)
        have h9 : Ext Wn wr := h11.trans hx9
        obtain ⟨⟨a0, a1, a2, a3⟩, ⟨x0, x1, x2, x3⟩, q0, q1, q2, q3, q4, q5, q6⟩ := FC.out wr h9
        go_wp2_with fail
        clear a0 a1 a2 a3 x0 x1 x2 x3 q0 q1 q2 q3 q4 q5 q6
        refine (same_yes _ _ c wr (HO.out wr h9) (HV.out wr h9) HSZ.out).mono ?_
        rintro e v1 ⟨rfl, h⟩
        have hh1 := h9.trans h
        clear h
        have K := eq_int (some ⟨gd, 0, none⟩) A kd k row row v1 (HD.out v1 hh1) (HA'.out v1 hh1) (by have := HLL.out; omega) (by have := HLL.out; omega)
        rw [beq_self_eq_true] at K
        go_wp2_with fail
        refine K.mono ?_
        rintro e v2 ⟨rfl, h⟩
        have hh2 := hh1.trans h
        clear h
        go_wp2_with fail
        refine (awake_any v2).mono ?_
        rintro e v3 ⟨rfl, h⟩
        go_wp2
        go_ret
        exact ⟨rfl, HXN.out.trans (hh2.trans h)⟩
end Go.Proofs.Ytgnjhaomlbkgcaa
