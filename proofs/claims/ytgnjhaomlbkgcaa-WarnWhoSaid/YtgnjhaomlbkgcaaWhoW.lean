/- The walk of WarnWho. Printed by my gen_who.py. -/
import Derived.Test.YtgnjhaomlbkgcaaRowsA
import Derived.Test.YtgnjhaomlbkgcaaWhoA
import Derived.Test.YtgnjhaomlbkgcaaDup
import Derived.Laws.StructEq
import Derived.Deep.DeepCutAuto
import Derived.Deep.CutBlock
namespace Go.Proofs.Ytgnjhaomlbkgcaa
open Go Go.RowKit
set_option linter.unusedVariables false
set_option linter.unusedSimpArgs false

theorem great_sized3 {c : Cs} (h : greatC c = false) : c.bs.length * 24 ≤ 140737488355328 ∧ c.cl.length * 32 ≤ 140737488355328 ∧ ∀ x ∈ c.cl, x.bs.length * 24 ≤ 140737488355328 := by
  unfold greatC at h
  simp only [Bool.or_eq_false_iff, decide_eq_false_iff_not, List.any_eq_false] at h
  obtain ⟨⟨h1, h2⟩, h3⟩ := h
  refine ⟨by omega, by omega, fun x hx => ?_⟩
  have h4 := h1 x hx
  simp only [decide_eq_true_eq] at h4
  omega
set_option maxRecDepth 100000 in
set_option maxHeartbeats 8000000 in
theorem whow_any (v : Value) (c : Cs) (A A' : Option Addr) (k kl : Nat) (row late : List Int) (a b : Int) (w : World) (hc : CsR w v c) (hs : c.sized) (hA0 : Ints w A row) (hL0 : Ints w A' late) :
    Calls Try.prog 8 #[v, .slice A row.length k, .slice A' late.length kl, .int .i64 a, .int .i64 b] w fun e w' => e = .returned (.bool true) ∧ Ext w w' := by
  have hc' := hc
  obtain ⟨A1, c1, A2, c2, rfl, hB, hC⟩ := hc
  have HSZ := hid hs
  obtain ⟨W0, hW0⟩ : ∃ W0, w.alloc (.cells #[.int .i64 c.ev, .slice A1 c.bs.length c1, .int .i64 c.wi, .slice A2 c.cl.length c2] 26) = W0 := ⟨_, rfl⟩
  have hx0 : Ext w W0 := by rw [← hW0]; exact Ext.alloc (Ext.refl w) _
  have FX : Hid (∀ w', Ext W0 w' → w'.cell? ⟨w.heap.size, 0, none⟩ = some (.int .i64 c.ev) ∧ w'.cell? ⟨w.heap.size, 1, none⟩ = some (.slice A1 c.bs.length c1) ∧ w'.cell? ⟨w.heap.size, 2, none⟩ = some (.int .i64 c.wi) ∧ w'.cell? ⟨w.heap.size, 3, none⟩ = some (.slice A2 c.cl.length c2)) := fun w' h => ⟨h.cell (by rw [← hW0]; simp [go_sem]), h.cell (by rw [← hW0]; simp [go_sem]), h.cell (by rw [← hW0]; simp [go_sem]), h.cell (by rw [← hW0]; simp [go_sem])⟩
  obtain ⟨q0, q1, q2, q3⟩ := FX.out W0 (Ext.refl _)
  have K1 := great_any _ c W0 (hc'.ext hx0) hs
  obtain ⟨GR, hGR⟩ : ∃ GR, greatC c = GR := ⟨_, rfl⟩
  rw [hGR] at K1
  have HGR := hid hGR
  clear hs hB hC
  go_enter Try.func8, Try.ntmps8
  go_wp2_with fail
  clear hW0 q0 q1 q2 q3
  refine K1.mono ?_
  clear K1
  rintro e w1 ⟨rfl, hb1⟩
  have hx1 := hx0.trans hb1
  clear hGR
  cases GR
  case true =>
    go_wp2_with fail
    refine (awake_any w1).mono ?_
    rintro e w2 ⟨rfl, hb2⟩
    go_wp2
    go_ret
    exact ⟨rfl, hx1.trans hb2⟩
  by_cases hr60 : (12 : Int) < (row.length : Int)
  · go_wp2_with fail
    refine (awake_any w1).mono ?_
    rintro e w2 ⟨rfl, hb2⟩
    go_wp2
    go_ret
    exact ⟨rfl, hx1.trans hb2⟩
  by_cases hr61 : (12 : Int) < (late.length : Int)
  · go_wp2_with fail
    refine (awake_any w1).mono ?_
    rintro e w2 ⟨rfl, hb2⟩
    go_wp2
    go_ret
    exact ⟨rfl, hx1.trans hb2⟩
  obtain ⟨hl1, hl2, hl3⟩ := great_sized3 HGR.out
  have HL3 := hid hl3
  have hl : row.length * 8 ≤ 140737488355328 := by omega
  have hl9 : late.length * 8 ≤ 140737488355328 := by omega
  clear HGR hl3
  have HC : Hid (∀ w', Ext w1 w' → CsR w' (.agg #[.int .i64 c.ev, .slice A1 c.bs.length c1, .int .i64 c.wi, .slice A2 c.cl.length c2]) c) := fun w' h => hc'.ext (hx1.trans h)
  have HA : Hid (∀ w', Ext w1 w' → Ints w' A row) := fun w' h => hA0.ext (hx1.trans h)
  have HAL : Hid (∀ w', Ext w1 w' → Ints w' A' late) := fun w' h => hL0.ext (hx1.trans h)
  clear hc' hA0 hL0
  go_wp2
  refine wp_region_shut_tail Ext (fun w' => Ext w1 w') (fun
    | 1 => some (fun v w' => ∃ B, OwnCs w' B v c)
    | 3 => some (fun v w' => ∃ g c', v = .slice (some ⟨g, 0, none⟩) row.length c' ∧ ∃ B, w'.ownsRow B 3 1 (.slice (some ⟨g, 0, none⟩) row.length c') row.length (row.map (.int .i64)))
    | 5 => some (fun v w' => ∃ g c', v = .slice (some ⟨g, 0, none⟩) late.length c' ∧ ∃ B, w'.ownsRow B 3 1 (.slice (some ⟨g, 0, none⟩) late.length c') late.length (late.map (.int .i64)))
    | 7 => some (fun v w' => TheirsCs w' v c)
    | 8 => some (fun v w' => ∃ B, v = .pointer (some ⟨B, 0, none⟩) ∧ w1.heap.size ≤ B ∧ w'.heap[B]? = some (.cells #[.int .i64 0, .slice none 0 0, .int .i64 0, .slice none 0 0] 26 (0, 0)))
    | 9 => some (fun v w' => ∃ B, v = .pointer (some ⟨B, 0, none⟩) ∧ w1.heap.size ≤ B ∧ w'.heap[B]? = some (.cells #[.int .i64 0, .slice none 0 0, .int .i64 0, .slice none 0 0] 72 (0, 0)))
    | _ => none) 10 (by kernel_rfl) (by kernel_rfl) (fun _ _ h k => h.trans k) ?hT (Ext.drew (Ext.refl w1)) ?_
  case hT =>
    intro i R hR
    match i, hR with
    | 1, hR => cases hR; exact fun _ _ _ ⟨B, h⟩ k => ⟨B, h.ext k⟩
    | 3, hR => cases hR; exact fun _ _ _ ⟨g, c', e, B, h⟩ k => ⟨g, c', e, B, own_below h k⟩
    | 5, hR => cases hR; exact fun _ _ _ ⟨g, c', e, B, h⟩ k => ⟨g, c', e, B, own_below h k⟩
    | 7, hR => cases hR; exact fun _ _ _ h k => h.ext k
    | 8, hR => cases hR; exact fun _ _ _ ⟨B, e, h1, h⟩ k => ⟨B, e, h1, (Below.block k B (Array.getElem?_eq_some_iff.1 h).1).trans h⟩
    | 9, hR => cases hR; exact fun _ _ _ ⟨B, e, h1, h⟩ k => ⟨B, e, h1, (Below.block k B (Array.getElem?_eq_some_iff.1 h).1).trans h⟩
  refine wM_val ?ua0 rfl rfl Ext.refl (fun w' hD => ?ha0) (fun pha0 => ?na0)
  case ha0 =>
    obtain ⟨d0, d1, d2, d3⟩ := FX.out _ (hb1.trans hD.1)
    go_simp; rfl
  simp only [Act.put, List.setIfInBounds_toArray, List.set_cons_succ, List.set_cons_zero, Nat.reduceAdd]
  refine wM_op _ rfl rfl (opens_call ?fa1 ?ga1 (fun w' hD => ?ha1) (fun w' hD => ?ca1)) (fun v1 hv1 => ?na1)
  case ha1 => go_simp; constructor <;> rfl
  case ca1 =>
    refine (own_any _ c w' (HC.out w' hD.1) hl1 hl2 HL3.out).mono ?_
    rintro e w2 ⟨v, rfl, ho, hb⟩
    exact ⟨_, rfl, hb, _, ho⟩
  obtain ⟨_, -, -, B1, g1, k1, g2, k2, gs, xs1, rfl, -⟩ := hv1
  simp only [Act.put, List.setIfInBounds_toArray, List.set_cons_succ, List.set_cons_zero, Nat.reduceAdd]
  refine wM_val ?ua2 rfl rfl Ext.refl (fun w' hD => ?ha2) (fun pha2 => ?na2)
  case ha2 =>
    obtain ⟨d0, d1, d2, d3⟩ := FX.out _ (hb1.trans hD.1)
    go_simp; rfl
  simp only [Act.put, List.setIfInBounds_toArray, List.set_cons_succ, List.set_cons_zero, Nat.reduceAdd]
  refine wM_op _ rfl rfl (opens_call ?fa3 ?ga3 (fun w' hD => ?ha3) (fun w' hD => ?ca3)) (fun v3 hv3 => ?na3)
  case ha3 => go_simp; constructor <;> rfl
  case ca3 =>
    refine (dup_int A k row w' (HA.out w' hD.1) hl).mono ?_
    rintro e w2 ⟨g, c', rfl, ho, hb⟩
    exact ⟨_, rfl, hb, g, c', rfl, _, ho⟩
  obtain ⟨_, -, -, gd, kd, rfl, -⟩ := hv3
  simp only [Act.put, List.setIfInBounds_toArray, List.set_cons_succ, List.set_cons_zero, Nat.reduceAdd]
  refine wM_val ?ua4 rfl rfl Ext.refl (fun w' hD => ?ha4) (fun pha4 => ?na4)
  case ha4 =>
    obtain ⟨d0, d1, d2, d3⟩ := FX.out _ (hb1.trans hD.1)
    go_simp; rfl
  simp only [Act.put, List.setIfInBounds_toArray, List.set_cons_succ, List.set_cons_zero, Nat.reduceAdd]
  refine wM_op _ rfl rfl (opens_call ?fa5 ?ga5 (fun w' hD => ?ha5) (fun w' hD => ?ca5)) (fun v5 hv5 => ?na5)
  case ha5 => go_simp; constructor <;> rfl
  case ca5 =>
    refine (dup_int A' kl late w' (HAL.out w' hD.1) hl9).mono ?_
    rintro e w2 ⟨g, c', rfl, ho, hb⟩
    exact ⟨_, rfl, hb, g, c', rfl, _, ho⟩
  obtain ⟨_, -, -, ge, ke, rfl, -⟩ := hv5
  simp only [Act.put, List.setIfInBounds_toArray, List.set_cons_succ, List.set_cons_zero, Nat.reduceAdd]
  refine wM_val ?ua6 rfl rfl Ext.refl (fun w' hD => ?ha6) (fun pha6 => ?na6)
  case ha6 =>
    obtain ⟨d0, d1, d2, d3⟩ := FX.out _ (hb1.trans hD.1)
    go_simp; rfl
  simp only [Act.put, List.setIfInBounds_toArray, List.set_cons_succ, List.set_cons_zero, Nat.reduceAdd]
  refine wM_op _ rfl rfl (opens_call ?fa7 ?ga7 (fun w' hD => ?ha7) (fun w' hD => ?ca7)) (fun v7 hv7 => ?na7)
  case ha7 => go_simp; constructor <;> rfl
  case ca7 =>
    refine (theirs_any _ c w' (HC.out w' hD.1) hl1 hl2 HL3.out).mono ?_
    rintro e w2 ⟨v', rfl, ho, hb⟩
    exact ⟨_, rfl, hb, ho⟩
  obtain ⟨_, -, -, A5, k5, A6, k6, xs5, B5, rfl, -⟩ := hv7
  simp only [Act.put, List.setIfInBounds_toArray, List.set_cons_succ, List.set_cons_zero, Nat.reduceAdd]
  refine wM_op _ rfl rfl (opens_val (fun w' hD => ?hm8)) (fun va8 hva8 => ?nm8)
  case hm8 =>
    refine ⟨.pointer (some ⟨w'.heap.size, 0, none⟩), w'.alloc (.cells #[.int .i64 0, .slice none 0 0, .int .i64 0, .slice none 0 0] 26), ?_, Ext.alloc (Ext.refl _) _, w'.heap.size, rfl, hD.1.size, World.alloc_heap_new _ _⟩
    go_simp
  obtain ⟨_, -, -, Ba, rfl, -⟩ := hva8
  simp only [Act.put, List.setIfInBounds_toArray, List.set_cons_succ, List.set_cons_zero, Nat.reduceAdd]
  refine wM_op _ rfl rfl (opens_val (fun w' hD => ?hm9)) (fun va9 hva9 => ?nm9)
  case hm9 =>
    refine ⟨.pointer (some ⟨w'.heap.size, 0, none⟩), w'.alloc (.cells #[.int .i64 0, .slice none 0 0, .int .i64 0, .slice none 0 0] 72), ?_, Ext.alloc (Ext.refl _) _, w'.heap.size, rfl, hD.1.size, World.alloc_heap_new _ _⟩
    go_simp
  obtain ⟨_, -, -, Bb, rfl, -⟩ := hva9
  simp only [Act.put, List.setIfInBounds_toArray, List.set_cons_succ, List.set_cons_zero, Nat.reduceAdd]
  refine wM_nil ?_
  intro w9 hw9 hF9
  obtain ⟨-, B1', ho1⟩ := hF9 1
  obtain ⟨-, gd', kd', e3, Bd, ho3⟩ := hF9 3
  cases e3
  obtain ⟨-, ge', ke', e4, Be, ho4⟩ := hF9 5
  cases e4
  obtain ⟨-, ho5⟩ := hF9 7
  obtain ⟨-, Ba', e6, hBa, GA⟩ := hF9 8
  cases e6
  obtain ⟨-, Bb', e7, hBb, GB⟩ := hF9 9
  cases e7
  clear hF9
  have hab : Ba ≠ Bb := fun e => by
    rw [e, GB] at GA
    injection GA with e1
    injection e1 with _ e2 _
    exact absurd e2 (by decide)
  have hba : Bb ≠ Ba := fun e => hab e.symm
  have hCB : CaseB w9 (fun n => n = Ba ∨ n = Bb) := fun n hn => by
    rcases hn with e | e
    · exact ⟨_, _, by rw [e]; exact GA, .inl rfl⟩
    · exact ⟨_, _, by rw [e]; exact GB, .inr rfl⟩
  obtain ⟨Wn, hWn⟩ : ∃ Wn, ((((((((w9.setCell ⟨Ba, 0, none⟩ (.int .i64 c.ev)).setCell ⟨Ba, 1, none⟩ (.slice (some ⟨g1, 0, none⟩) c.bs.length k1)).setCell ⟨Ba, 2, none⟩ (.int .i64 c.wi)).setCell ⟨Ba, 3, none⟩ (.slice (some ⟨g2, 0, none⟩) c.cl.length k2)).setCell ⟨Bb, 0, none⟩ (.int .i64 c.ev)).setCell ⟨Bb, 1, none⟩ (.slice A5 c.bs.length k5)).setCell ⟨Bb, 2, none⟩ (.int .i64 c.wi)).setCell ⟨Bb, 3, none⟩ (.slice A6 c.cl.length k6)) = Wn := ⟨_, rfl⟩
  have hbn : BelS (fun n => n = Ba ∨ n = Bb) w9 Wn := by
    rw [← hWn]
    exact (((((((((BelS.refl _ w9).setCell (S := fun n => n = Ba ∨ n = Bb) ⟨Ba, 0, none⟩ _ (.inl rfl)).setCell (S := fun n => n = Ba ∨ n = Bb) ⟨Ba, 1, none⟩ _ (.inl rfl)).setCell (S := fun n => n = Ba ∨ n = Bb) ⟨Ba, 2, none⟩ _ (.inl rfl)).setCell (S := fun n => n = Ba ∨ n = Bb) ⟨Ba, 3, none⟩ _ (.inl rfl)).setCell (S := fun n => n = Ba ∨ n = Bb) ⟨Bb, 0, none⟩ _ (.inr rfl)).setCell (S := fun n => n = Ba ∨ n = Bb) ⟨Bb, 1, none⟩ _ (.inr rfl)).setCell (S := fun n => n = Ba ∨ n = Bb) ⟨Bb, 2, none⟩ _ (.inr rfl)).setCell (S := fun n => n = Ba ∨ n = Bb) ⟨Bb, 3, none⟩ _ (.inr rfl))
  have hx0n : Ext W0 Wn := by
    have h1 : W0.heap.size ≤ Ba := Nat.le_trans hb1.size hBa
    have h2 : W0.heap.size ≤ Bb := Nat.le_trans hb1.size hBb
    rw [← hWn]
    exact (((((((((hb1.trans hw9).setCell (by simpa using h1) _).setCell (by simpa using h1) _).setCell (by simpa using h1) _).setCell (by simpa using h1) _).setCell (by simpa using h2) _).setCell (by simpa using h2) _).setCell (by simpa using h2) _).setCell (by simpa using h2) _)
  have hx1n : Ext w1 Wn := by
    rw [← hWn]
    exact ((((((((hw9.setCell (by simpa using hBa) _).setCell (by simpa using hBa) _).setCell (by simpa using hBa) _).setCell (by simpa using hBa) _).setCell (by simpa using hBb) _).setCell (by simpa using hBb) _).setCell (by simpa using hBb) _).setCell (by simpa using hBb) _)
  have p0 := block_cell (i := 0) GA
  have p1 := block_cell (i := 1) GA
  have p2 := block_cell (i := 2) GA
  have p3 := block_cell (i := 3) GA
  have f0 := block_free (i := 0) GA
  have f1 := block_free (i := 1) GA
  have f2 := block_free (i := 2) GA
  have f3 := block_free (i := 3) GA
  have u0 := block_cell (i := 0) GB
  have u1 := block_cell (i := 1) GB
  have u2 := block_cell (i := 2) GB
  have u3 := block_cell (i := 3) GB
  have v0 := block_free (i := 0) GB
  have v1 := block_free (i := 1) GB
  have v2 := block_free (i := 2) GB
  have v3 := block_free (i := 3) GB
  simp only [List.getElem?_toArray, List.getElem?_cons_zero, List.getElem?_cons_succ] at p0 p1 p2 p3 u0 u1 u2 u3
  have FN : Hid (((Wn.cell? ⟨Ba, 0, none⟩ = some (.int .i64 c.ev) ∧ Wn.cell? ⟨Ba, 1, none⟩ = some (.slice (some ⟨g1, 0, none⟩) c.bs.length k1) ∧ Wn.cell? ⟨Ba, 2, none⟩ = some (.int .i64 c.wi) ∧ Wn.cell? ⟨Ba, 3, none⟩ = some (.slice (some ⟨g2, 0, none⟩) c.cl.length k2)) ∧ Wn.cell? ⟨Bb, 0, none⟩ = some (.int .i64 c.ev) ∧ Wn.cell? ⟨Bb, 1, none⟩ = some (.slice A5 c.bs.length k5) ∧ Wn.cell? ⟨Bb, 2, none⟩ = some (.int .i64 c.wi) ∧ Wn.cell? ⟨Bb, 3, none⟩ = some (.slice A6 c.cl.length k6))) := by
    unfold Hid
    rw [← hWn]
    have hab' := hab
    have hba' := hba
    simp [go_sem, p0, p1, p2, p3, u0, u1, u2, u3, hab', hba']
  have HOC : Hid (CsR Wn (.agg #[.int .i64 c.ev, .slice (some ⟨g1, 0, none⟩) c.bs.length k1, .int .i64 c.wi, .slice (some ⟨g2, 0, none⟩) c.cl.length k2]) c) := ho1.stores hCB hbn
  have HXC : Hid (CsR Wn (.agg #[.int .i64 c.ev, .slice A5 c.bs.length k5, .int .i64 c.wi, .slice A6 c.cl.length k6]) c) := ho5.stores hCB hbn
  have HDI : Hid (Ints Wn (some ⟨gd, 0, none⟩) row) := Rd.of_own (hCB.own hbn ho3 (by decide) (by decide))
  have HEI : Hid (Ints Wn (some ⟨ge, 0, none⟩) late) := Rd.of_own (hCB.own hbn ho4 (by decide) (by decide))
  clear ho1 ho3 ho4 ho5 hCB hbn GA GB
  simp only [List.drop_succ_cons, List.drop_zero]
  obtain ⟨⟨a0, a1, a2, a3⟩, x0, x1, x2, x3⟩ := FN.out
  have FC : Hid (∀ w', Ext Wn w' → (w'.cell? ⟨Ba, 0, none⟩ = some (.int .i64 c.ev) ∧ w'.cell? ⟨Ba, 1, none⟩ = some (.slice (some ⟨g1, 0, none⟩) c.bs.length k1) ∧ w'.cell? ⟨Ba, 2, none⟩ = some (.int .i64 c.wi) ∧ w'.cell? ⟨Ba, 3, none⟩ = some (.slice (some ⟨g2, 0, none⟩) c.cl.length k2)) ∧ (w'.cell? ⟨Bb, 0, none⟩ = some (.int .i64 c.ev) ∧ w'.cell? ⟨Bb, 1, none⟩ = some (.slice A5 c.bs.length k5) ∧ w'.cell? ⟨Bb, 2, none⟩ = some (.int .i64 c.wi) ∧ w'.cell? ⟨Bb, 3, none⟩ = some (.slice A6 c.cl.length k6)) ∧ w'.cell? ⟨w.heap.size, 0, none⟩ = some (.int .i64 c.ev) ∧ w'.cell? ⟨w.heap.size, 1, none⟩ = some (.slice A1 c.bs.length c1) ∧ w'.cell? ⟨w.heap.size, 2, none⟩ = some (.int .i64 c.wi) ∧ w'.cell? ⟨w.heap.size, 3, none⟩ = some (.slice A2 c.cl.length c2)) := fun w' h => ⟨⟨h.cell a0, h.cell a1, h.cell a2, h.cell a3⟩, ⟨h.cell x0, h.cell x1, h.cell x2, h.cell x3⟩, FX.out w' (hx0n.trans h)⟩
  obtain ⟨-, -, q0, q1, q2, q3⟩ := FC.out Wn (Ext.refl _)
  have HO : Hid (∀ w', Ext Wn w' → CsR w' (.agg #[.int .i64 c.ev, .slice (some ⟨g1, 0, none⟩) c.bs.length k1, .int .i64 c.wi, .slice (some ⟨g2, 0, none⟩) c.cl.length k2]) c) := fun w' h => HOC.out.ext h
  have HXX : Hid (∀ w', Ext Wn w' → CsR w' (.agg #[.int .i64 c.ev, .slice A5 c.bs.length k5, .int .i64 c.wi, .slice A6 c.cl.length k6]) c) := fun w' h => HXC.out.ext h
  have HV : Hid (∀ w', Ext Wn w' → CsR w' (.agg #[.int .i64 c.ev, .slice A1 c.bs.length c1, .int .i64 c.wi, .slice A2 c.cl.length c2]) c) := fun w' h => HC.out w' (hx1n.trans h)
  have HD : Hid (∀ w', Ext Wn w' → Ints w' (some ⟨gd, 0, none⟩) row) := fun w' h => HDI.out.ext h
  have HE : Hid (∀ w', Ext Wn w' → Ints w' (some ⟨ge, 0, none⟩) late) := fun w' h => HEI.out.ext h
  have HA' : Hid (∀ w', Ext Wn w' → Ints w' A row) := fun w' h => HA.out w' (hx1n.trans h)
  have HL' : Hid (∀ w', Ext Wn w' → Ints w' A' late) := fun w' h => HAL.out w' (hx1n.trans h)
  have HXN : Hid (Ext w Wn) := hx1.trans hx1n
  have HLL : Hid (row.length ≤ 12 ∧ late.length ≤ 12) := ⟨by omega, by omega⟩
  have h0 : Ext Wn Wn := Ext.refl _
  clear FX HC HA HAL HOC HXC HDI HEI FN hx0n hx1n hx1 hx0 hb1 hBa hBb hw9
  obtain ⟨M, hM⟩ : ∃ M, checkC c = M := ⟨_, rfl⟩
  have HM := hid hM
  have K := refcheck_any _ c Wn (HXX.out Wn h0) HSZ.out
  rw [hM] at K
  have HK := hid K
  clear K hM
  go_wp2_with fail
  clear hWn hab hba p0 p1 p2 p3 u0 u1 u2 u3 f0 f1 f2 f3 v0 v1 v2 v3 hl hl9 hl1 hl2 HL3 hr60 hr61
  clear a0 a1 a2 a3 x0 x1 x2 x3 q0 q1 q2 q3
  refine HK.out.mono ?_
  clear HK
  rintro e w10 ⟨rfl, h⟩
  have h10 : Ext Wn w10 := h
  clear h h0
  obtain ⟨U, hU⟩ : ∃ U, warnedC c row late = U := ⟨_, rfl⟩
  have HU := hid hU
  obtain ⟨V, hV⟩ : ∃ V, toldC c = V := ⟨_, rfl⟩
  have HT := hid hV
  clear hU hV
  go_upto_if 63 with fail
  go_cut [16, 17] (fun s16 s17 wx => s16 = .int .i64 U ∧ s17 = .int .i64 V ∧ Ext Wn wx)
  case first =>
    as_aux_lemma =>
      by_cases hM0 : M = 0
      case neg =>
        have b1 : (M == 0) = false := by simpa using hM0
        have HUM : Hid (U = M) := by unfold Hid; rw [← HU.out]; unfold warnedC; rw [HM.out, if_pos hM0]
        have HVM : Hid (V = M) := by unfold Hid; rw [← HT.out]; unfold toldC; rw [HM.out, if_neg hM0]
        go_wp2_with fail
        go_meet
        exact ⟨by rw [HUM.out], by rw [HVM.out], h10⟩
      subst hM0
      have H0 : Hid (checkC c = 0) := HM.out
      have hwi := (manyOK_parts (checkC_ok H0.out).1).2.2.2
      have HWI : Hid (0 ≤ c.wi ∧ c.wi ≤ 6) := ⟨hwi.1, hwi.2.1⟩
      have hev := checkC_ev H0.out
      obtain ⟨CLM, hcl⟩ : ∃ b, clashM (gapsM allT c) = b := ⟨_, rfl⟩
      have HBT : Hid (clashR (belT (rl c.wi.toNat fun _ => true)) c = CLM) := by unfold Hid; rw [belT_all c H0.out, hcl]
      have HVV : Hid (V = if CLM then 7 else 0) := by unfold Hid; rw [← HT.out]; unfold toldC; rw [if_pos H0.out, hcl]
      clear hwi hcl
      obtain ⟨U0, hU0⟩ : ∃ u : Int, (if row.length ≠ late.length ∨ 8 < row.length then (2 : Int) else 0) = u := ⟨_, rfl⟩
      have HU0 := hid hU0
      have HUE : Hid (U = if stU U0 c.ev (row ++ late) (row ++ late).length ≠ 0 then stU U0 c.ev (row ++ late) (row ++ late).length else V) := by
        unfold Hid; rw [← HU.out, ← HT.out]; exact stU_end H0.out hU0
      clear hU0
      go_upto_region 7 with fail
      go_cut [73] (fun s73 wx => ∃ bb : Bool, s73 = .bool bb ∧ Hid (U0 = if bb then 2 else 0) ∧ w10 = wx)
      case first =>
        by_cases hlen : row.length = late.length
        · have b3 : ((row.length : Int) != (late.length : Int)) = false := by simp; omega
          by_cases h8 : 8 < row.length
          · have b4 : (8 : Int) < (row.length : Int) := by omega
            have HE0 : Hid (U0 = 2) := by unfold Hid; rw [← HU0.out, if_pos (.inr h8)]
            clear hlen
            go_wp2_with fail
            go_meet
            exact ⟨true, rfl, HE0, rfl⟩
          · have b4 : ¬ (8 : Int) < (row.length : Int) := by omega
            have HE0 : Hid (U0 = 0) := by unfold Hid; rw [← HU0.out, if_neg (by omega)]
            clear hlen
            go_wp2_with fail
            go_meet
            exact ⟨false, rfl, HE0, rfl⟩
        · have b3 : ((row.length : Int) != (late.length : Int)) = true := by simp; omega
          have HE0 : Hid (U0 = 2) := by unfold Hid; rw [← HU0.out, if_pos (.inl hlen)]
          clear hlen
          go_wp2_with fail
          go_meet
          exact ⟨true, rfl, HE0, rfl⟩
      case rest =>
      obtain ⟨bb, rfl, HB0, hwc⟩ := hcut
      subst hwc
      go_upto_if 73 with fail
      go_cut [16] (fun s16 wx => s16 = .int .i64 U0 ∧ w10 = wx)
      case first =>
        cases bb
        · go_wp2_with fail
          go_meet
          exact ⟨by rw [show U0 = 0 from HB0.out], rfl⟩
        · go_wp2_with fail
          go_meet
          exact ⟨by rw [show U0 = 2 from HB0.out], rfl⟩
      case rest =>
        obtain ⟨rfl, hwc⟩ := hcut
        subst hwc
        as_aux_lemma =>
          have K := dup_int A k row w10 (HA'.out w10 h10) (by have := HLL.out; omega)
          have HK := hid K
          clear K
          go_wp2_with fail
          refine HK.out.mono ?_
          clear HK
          rintro e w11 ⟨g11, k11, rfl, ho11, hx11⟩
          have h11 := h10.trans hx11
          have hll := HLL.out
          have O11 := hid ho11
          have hbs11 := hx11.size
          have hL11 : Rd w11 A' (icells late) := HL'.out w11 h11
          have HL11 := hid hL11
          have hbytes : (row.length + late.length) * 8 ≤ 140737488355328 := by omega
          clear ho11 hL11
          go_wp2_with (at_builtin; refine wpList_append_rd _ rfl _ _ 27 rfl elem_int w10.heap.size _ row.length (row.map (.int .i64)) rfl O11.out _ late.length kl (icells late) rfl (by simp [icells]) HL11.out (icells_one _) hbytes hbs11 ?_)
          intro A12 k12 w12 hown12 hbel12 hgr12 _
          have hx12 : Ext w10 w12 := Below.trans hx11 hbel12
          have h12 := h10.trans hx12
          have HI12 : Hid (Ints w12 A12 (row ++ late)) := by unfold Hid Ints; rw [List.map_append]; exact Rd.of_own hown12
          have HX12 := hid h12
          have hN24 : row.length + late.length ≤ 24 := by omega
          have hln : (row ++ late).length = row.length + late.length := by simp
          obtain ⟨NN, hNN⟩ : ∃ NN, row.length + late.length = NN := ⟨_, rfl⟩
          rw [hNN] at hln hN24 ⊢
          have HLN := hid hln
          clear hNN hll hln
          clear hown12 hbel12 hgr12 O11 HL11 hx12 hbs11 hbytes h11
          go_wp2
          go_loopw [16, 79] (fun s16 i wr => ∃ kk : Nat, kk ≤ NN ∧ i = .int .i64 (kk : Int) ∧ wr = w12 ∧ ∃ X, s16 = .int .i64 X ∧ Hid (X = stU U0 c.ev (row ++ late) kk)) (fun _ i _ => NN - (intOf i).toNat)
          case atStart => exact ⟨0, Nat.zero_le _, rfl, rfl, U0, rfl, (stU_zero _ _ _).symm⟩
          case round =>
            obtain ⟨kk, hk, rfl, hwr, X, rfl, HX⟩ := hrel
            by_cases hlt : kk < NN
            · have hlt' : (kk : Int) < (NN : Int) := by omega
              obtain ⟨x, hxk⟩ := get_of_lt (row ++ late) kk (by rw [HLN.out]; exact hlt)
              obtain ⟨b1, o1, rfl, cx⟩ := HI12.out.at_ hxk
              obtain ⟨-, -, q0, q1, q2, q3⟩ := FC.out w12 HX12.out
              have HXK := hid hxk
              clear hxk q1 q2 q3
              by_cases hX : X = 0
              · subst hX
                have HST := hid (stU_step HXK.out HX.out.symm)
                by_cases hx0 : x < 0
                · have HE2 : Hid ((1 : Int) = stU U0 c.ev (row ++ late) (kk + 1)) := by
                    unfold Hid; rw [HST.out, if_neg (by rw [inB_iff]; omega)]
                  go_wp2
                  go_roundw
                  case rel => exact ⟨kk + 1, by omega, by go_num, (by first | exact hwr | trivial), 1, rfl, HE2⟩
                  case measure => simp [intOf]; omega
                · by_cases hx1 : c.ev ≤ x
                  · have HE2 : Hid ((1 : Int) = stU U0 c.ev (row ++ late) (kk + 1)) := by
                      unfold Hid; rw [HST.out, if_neg (by rw [inB_iff]; omega)]
                    go_wp2
                    go_roundw
                    case rel => exact ⟨kk + 1, by omega, by go_num, (by first | exact hwr | trivial), 1, rfl, HE2⟩
                    case measure => simp [intOf]; omega
                  · have HE2 : Hid ((0 : Int) = stU U0 c.ev (row ++ late) (kk + 1)) := by
                      unfold Hid; rw [HST.out, if_pos (by rw [inB_iff]; omega)]
                    go_wp2
                    go_roundw
                    case rel => exact ⟨kk + 1, by omega, by go_num, (by first | exact hwr | trivial), 0, rfl, HE2⟩
                    case measure => simp [intOf]; omega
              · have bX : (X == 0) = false := by simpa using hX
                have HE2 : Hid (X = stU U0 c.ev (row ++ late) (kk + 1)) := by
                  unfold Hid
                  rw [stU_keep (by rw [HLN.out]; exact hlt) (by rw [← HX.out]; exact hX)]
                  exact HX.out
                clear HX
                go_wp2
                go_roundw
                case rel => exact ⟨kk + 1, by omega, by go_num, (by first | exact hwr | trivial), X, rfl, HE2⟩
                case measure => simp [intOf]; omega
            · have hlt' : ¬ (kk : Int) < (NN : Int) := by omega
              have hke : kk = (row ++ late).length := by rw [HLN.out]; omega
              have HXE : Hid (U = if X ≠ 0 then X else V) := by
                unfold Hid
                have h := HUE.out
                rw [← hke, ← HX.out] at h
                exact h
              clear hke HX
              subst hwr
              obtain ⟨⟨a0, a1, a2, a3⟩, ⟨x0, x1, x2, x3⟩, q0, q1, q2, q3⟩ := FC.out wr (HX12.out)
              go_wp2
              clear a0 a1 a2 a3 x0 x1 x2 x3 q0 q1 q2 q3
              refine wp_region_shut Ext (fun w' => Ext wr w') (fun | 2 => some (fun v w' => ∃ B, v = .slice (some ⟨B, 0, none⟩) c.wi.toNat c.wi.toNat ∧ Bools w' (some ⟨B, 0, none⟩) (rl c.wi.toNat fun _ => true)) | 3 => some (fun v _ => v = .bool CLM) | _ => none) (by kernel_rfl) (by kernel_rfl) (fun _ _ h k => h.trans k) ?hT1 (Ext.drew (Ext.refl wr)) ?_
              case hT1 =>
                intro i R hR
                match i, hR with
                | 2, hR => cases hR; exact fun _ _ _ ⟨B, e, h⟩ k => ⟨B, e, h.ext k⟩
                | 3, hR => cases hR; exact fun _ _ _ h _ => h
              refine wM_val ?uc1_0 rfl rfl Ext.refl (fun w' hD => ?hc1_0) (fun phc1_0 => ?nc1_0)
              case hc1_0 =>
                obtain ⟨-, ⟨d0, d1, d2, d3⟩, -⟩ := FC.out _ ((HX12.out).trans hD.1)
                go_simp; rfl
              simp only [Act.put, List.setIfInBounds_toArray, List.set_cons_succ, List.set_cons_zero, Nat.reduceAdd]
              refine wM_val ?uc1_1 rfl rfl Ext.refl (fun w' hD => ?hc1_1) (fun phc1_1 => ?nc1_1)
              case hc1_1 =>
                obtain ⟨-, ⟨d0, d1, d2, d3⟩, -⟩ := FC.out _ ((HX12.out).trans hD.1)
                go_simp; rfl
              simp only [Act.put, List.setIfInBounds_toArray, List.set_cons_succ, List.set_cons_zero, Nat.reduceAdd]
              refine wM_op _ rfl rfl (opens_call ?fc1_2 ?gc1_2 (fun w' hD => ?hc1_2) (fun w' hD => ?cc1_2)) (fun v2 hv2 => ?nc1_2)
              case hc1_2 => go_simp; constructor <;> rfl
              case cc1_2 =>
                refine (refevery_any _ c w' (HXX.out w' ((HX12.out).trans hD.1)) HWI.out.1 HWI.out.2).mono ?_
                rintro e w2 ⟨B, rfl, -, hB, hb⟩
                exact ⟨_, rfl, hb, B, rfl, hB.bools⟩
              obtain ⟨_, -, -, Be, rfl, -⟩ := hv2
              simp only [Act.put, List.setIfInBounds_toArray, List.set_cons_succ, List.set_cons_zero, Nat.reduceAdd]
              refine wM_op _ rfl rfl (opens_call ?fc1_3 ?gc1_3 (fun w' hD => ?hc1_3) (fun w' hD => ?cc1_3)) (fun v3 hv3 => ?nc1_3)
              case hc1_3 => go_simp; constructor <;> rfl
              case cc1_3 =>
                obtain ⟨-, B9, e9, hB9⟩ := hD.get 2 (by first | kernel_rfl | simp [Region.binds])
                cases e9
                have K := refclash_any _ c (some ⟨Be, 0, none⟩) c.wi.toNat (rl c.wi.toNat fun _ => true) w' (HXX.out w' ((HX12.out).trans hD.1)) HSZ.out H0.out hB9 (rl_len _ _)
                rw [rl_len, HBT.out] at K
                refine K.mono ?_
                rintro e w2 ⟨rfl, hb⟩
                exact ⟨_, rfl, hb, rfl⟩
              obtain ⟨_, -, -, rfl⟩ := hv3
              simp only [Act.put, List.setIfInBounds_toArray, List.set_cons_succ, List.set_cons_zero, Nat.reduceAdd]
              refine wM_nil ?_
              intro w13 hw13 hF9
              clear hF9
              have h13 := (HX12.out).trans hw13
              cases CLM
              · have HV0 : Hid (V = 0) := HVV.out
                have HUX : Hid (U = X) := by
                  unfold Hid
                  rw [HXE.out, HV0.out]
                  by_cases hX : X = 0
                  · rw [hX]; rfl
                  · rw [if_pos hX]
                go_wp2_with fail
                go_meet
                exact ⟨by rw [HUX.out], by rw [HV0.out], h13⟩
              · have HV7 : Hid (V = 7) := HVV.out
                by_cases hX : X = 0
                · subst hX
                  have HUX : Hid (U = 7) := by unfold Hid; rw [HXE.out, if_neg (by simp), HV7.out]
                  go_wp2_with fail
                  go_meet
                  exact ⟨by rw [HUX.out], by rw [HV7.out], h13⟩
                · have bX : (X == 0) = false := by simpa using hX
                  have HUX : Hid (U = X) := by unfold Hid; rw [HXE.out, if_pos hX]
                  go_wp2_with fail
                  go_meet
                  exact ⟨by rw [HUX.out], by rw [HV7.out], h13⟩
  case rest =>
    obtain ⟨rfl, rfl, h20⟩ := hcut
    obtain ⟨EV, hEV⟩ : ∃ e : Int, (if V = 0 then c.ev else 0) = e := ⟨_, rfl⟩
    have HEV := hid hEV
    clear hEV
    have b2 : (U != U) = false := by simp
    have b3 : (V != V) = false := by simp
    go_upto_if 104 with fail
    go_cut [20, 21] (fun s20 s21 wx => s21 = .int .i64 EV ∧ Ext wc wx ∧ ((V ≠ 0 ∧ s20 = .slice none 0 0) ∨ (V = 0 ∧ ∃ Be, s20 = .slice (some ⟨Be, 0, none⟩) c.wi.toNat c.wi.toNat ∧ Bools wx (some ⟨Be, 0, none⟩) (rl c.wi.toNat fun _ => true))))
    case first =>
      as_aux_lemma =>
        by_cases hV : V = 0
        · subst hV
          have H0 : Hid (checkC c = 0) := toldC_check HT.out
          have hwi := (manyOK_parts (checkC_ok H0.out).1).2.2.2
          have HWI : Hid (0 ≤ c.wi ∧ c.wi ≤ 6) := ⟨hwi.1, hwi.2.1⟩
          have HE0 : Hid (EV = c.ev) := by unfold Hid; rw [← HEV.out, if_pos rfl]
          clear hwi
          obtain ⟨⟨a0, a1, a2, a3⟩, ⟨x0, x1, x2, x3⟩, q0, q1, q2, q3⟩ := FC.out wc (h20)
          go_wp2
          clear a0 a1 a2 a3 x0 x1 x2 x3 q0 q1 q2 q3
          refine wp_region_shut Ext (fun w' => Ext wc w') (fun | 1 => some (fun v w' => ∃ B, v = .slice (some ⟨B, 0, none⟩) c.wi.toNat c.wi.toNat ∧ Bools w' (some ⟨B, 0, none⟩) (rl c.wi.toNat fun _ => true)) | _ => none) (by kernel_rfl) (by kernel_rfl) (fun _ _ h k => h.trans k) ?hR2 (Ext.drew (Ext.refl wc)) ?_
          case hR2 =>
            intro i R hR
            match i, hR with
            | 1, hR => cases hR; exact fun _ _ _ ⟨B, e, h⟩ k => ⟨B, e, h.ext k⟩
          refine wM_val ?ud2_0 rfl rfl Ext.refl (fun w' hD => ?hd2_0) (fun phd2_0 => ?nd2_0)
          case hd2_0 =>
            obtain ⟨-, ⟨d0, d1, d2, d3⟩, e0, e1, e2, e3⟩ := FC.out _ ((h20).trans hD.1)
            go_simp; rfl
          simp only [Act.put, List.setIfInBounds_toArray, List.set_cons_succ, List.set_cons_zero, Nat.reduceAdd]
          refine wM_op _ rfl rfl (opens_call ?fd2_1 ?gd2_1 (fun w' hD => ?hd2_1) (fun w' hD => ?cd2_1)) (fun v1 hv1 => ?nd2_1)
          case hd2_1 => go_simp; constructor <;> rfl
          case cd2_1 =>
            refine (refevery_any _ c w' (HXX.out w' (h20.trans hD.1)) HWI.out.1 HWI.out.2).mono ?_
            rintro e w2 ⟨B, rfl, -, hB, hb⟩
            exact ⟨_, rfl, hb, B, rfl, hB.bools⟩
          obtain ⟨_, -, -, Be, rfl, -⟩ := hv1
          simp only [Act.put, List.setIfInBounds_toArray, List.set_cons_succ, List.set_cons_zero, Nat.reduceAdd]
          refine wM_val ?ud2_2 rfl rfl Ext.refl (fun w' hD => ?hd2_2) (fun phd2_2 => ?nd2_2)
          case hd2_2 =>
            obtain ⟨-, ⟨d0, d1, d2, d3⟩, e0, e1, e2, e3⟩ := FC.out _ ((h20).trans hD.1)
            go_simp; rfl
          simp only [Act.put, List.setIfInBounds_toArray, List.set_cons_succ, List.set_cons_zero, Nat.reduceAdd]
          refine wM_val ?ud2_3 rfl rfl Ext.refl (fun w' hD => ?hd2_3) (fun phd2_3 => ?nd2_3)
          case hd2_3 =>
            obtain ⟨-, ⟨d0, d1, d2, d3⟩, e0, e1, e2, e3⟩ := FC.out _ ((h20).trans hD.1)
            go_simp; rfl
          simp only [Act.put, List.setIfInBounds_toArray, List.set_cons_succ, List.set_cons_zero, Nat.reduceAdd]
          refine wM_val ?ud2_4 rfl rfl Ext.refl (fun w' hD => ?hd2_4) (fun phd2_4 => ?nd2_4)
          case hd2_4 =>
            obtain ⟨-, ⟨d0, d1, d2, d3⟩, e0, e1, e2, e3⟩ := FC.out _ ((h20).trans hD.1)
            go_simp; rfl
          simp only [Act.put, List.setIfInBounds_toArray, List.set_cons_succ, List.set_cons_zero, Nat.reduceAdd]
          refine wM_val ?ud2_5 rfl rfl Ext.refl (fun w' hD => ?hd2_5) (fun phd2_5 => ?nd2_5)
          case hd2_5 =>
            obtain ⟨-, ⟨d0, d1, d2, d3⟩, e0, e1, e2, e3⟩ := FC.out _ ((h20).trans hD.1)
            go_simp; rfl
          simp only [Act.put, List.setIfInBounds_toArray, List.set_cons_succ, List.set_cons_zero, Nat.reduceAdd]
          refine wM_nil ?_
          intro w21 hw21 hF9
          obtain ⟨-, B9, e9, hB9⟩ := hF9 1
          cases e9
          clear hF9
          go_wp2_with fail
          go_meet
          exact ⟨by rw [HE0.out], hw21, .inr ⟨rfl, Be, rfl, hB9⟩⟩
        · have bV : (V == 0) = false := by simpa using hV
          have HE0 : Hid (EV = 0) := by unfold Hid; rw [← HEV.out, if_neg hV]
          go_wp2_with fail
          go_meet
          exact ⟨by rw [HE0.out], Ext.refl _, .inl ⟨hV, rfl⟩⟩
    case rest =>
      obtain ⟨rfl, hx21, HALL⟩ := hcut
      have h21 := h20.trans hx21
      have HALLF : Hid (∀ w', Ext wc w' → ((V ≠ 0 ∧ u20 = .slice none 0 0) ∨ (V = 0 ∧ ∃ Be, u20 = .slice (some ⟨Be, 0, none⟩) c.wi.toNat c.wi.toNat ∧ Bools w' (some ⟨Be, 0, none⟩) (rl c.wi.toNat fun _ => true)))) := fun w' h => by
        rcases HALL with ⟨e1, e2⟩ | ⟨e1, Be, e2, hb⟩
        · exact .inl ⟨e1, e2⟩
        · exact .inr ⟨e1, Be, e2, hb.ext h⟩
      clear HALL hx21 h20
      obtain ⟨VL, hVL⟩ : ∃ l, (if U = 0 then vdsL (gapsM allT c) row late else []) = l := ⟨_, rfl⟩
      have HVL := hid hVL
      clear hVL
      go_upto_block 2 with fail
      go_cut [22] (fun s22 wx => Ext wc wx ∧ ∃ A7 k7, s22 = .slice A7 VL.length k7 ∧ Ints wx A7 VL)
      case first =>
        as_aux_lemma =>
          by_cases hU : U = 0
          · subst hU
            have hvl := HVL.out
            rw [if_pos rfl] at hvl
            have hw0 := HU.out
            have hk0 : checkC c = 0 := by
              by_cases h : checkC c = 0
              · exact h
              · exfalso; unfold warnedC at hw0; rw [if_pos h] at hw0; exact h hw0
            have hlb : ¬ (row.length ≠ late.length ∨ 8 < row.length) := fun hb => by
              unfold warnedC at hw0; rw [if_neg (by simp [hk0]), if_pos hb] at hw0; cases hw0
            have hask : askedC c (row ++ late) = 0 := by unfold warnedC at hw0; rw [if_neg (by simp [hk0]), if_neg hlb] at hw0; exact hw0
            have hpt := askedC_parts hask
            have HIN := hid hpt.2.2
            have HLE : Hid (row.length = late.length) := by unfold Hid; omega
            have HRL8 : Hid (row.length ≤ 8) := by unfold Hid; omega
            have H0 := hid hk0
            have hcl : clashM (gapsM allT c) = false := by
              have h := hpt.2.1
              unfold toldC at h
              rw [if_pos hk0] at h
              cases hq : clashM (gapsM allT c)
              · rfl
              · rw [hq] at h; cases h
            have HCL := hid hcl
            obtain ⟨Be, rfl, hBe⟩ : ∃ Be, _ = Value.slice (some ⟨Be, 0, none⟩) c.wi.toNat c.wi.toNat ∧ Bools wc (some ⟨Be, 0, none⟩) (rl c.wi.toNat fun _ => true) := by
              rcases HALLF.out wc (Ext.refl _) with ⟨hv, _⟩ | ⟨_, Be, e, hb⟩
              · exact absurd (HT.out.symm.trans hpt.2.1) hv
              · exact ⟨Be, e, hb⟩
            have HBB : Hid (∀ w', Ext wc w' → Bools w' (some ⟨Be, 0, none⟩) (rl c.wi.toNat fun _ => true)) := fun w' h => hBe.ext h
            have HVD : Hid (VL = vdsL (gapsM allT c) row late) := hvl.symm
            have HVN : Hid ((vdsL (gapsM allT c) row late).length = row.length) := vds_len HLE.out
            clear hvl hw0 hk0 hlb hask hpt hcl hBe HVL HU
            go_wp2_with fail
            go_loopw [22, 111] (fun s i wr => ∃ (kk : Nat) (A5 : Option Addr) (k5 : Nat), kk ≤ row.length ∧ i = .int .i64 (kk : Int) ∧ s = .slice A5 kk k5 ∧ Ext wc wr ∧ Hid (wr.ownsRow wc.heap.size 39 1 (.slice A5 kk k5) kk (icells ((vdsL (gapsM allT c) row late).take kk)))) (fun _ i _ => row.length - (intOf i).toNat)
            case atStart => exact ⟨0, none, 0, Nat.zero_le _, rfl, rfl, Ext.refl _, own_nil _ _ _ _⟩
            case round =>
              obtain ⟨kk, A5, k5, hk, rfl, rfl, hx, O⟩ := hrel
              by_cases hlt : kk < row.length
              · have hlt' : (kk : Int) < (row.length : Int) := by omega
                obtain ⟨x, hxk⟩ := get_of_lt row kk hlt
                obtain ⟨y, hyk⟩ := get_of_lt late kk (by have := HLE.out; omega)
                have hx8 := HIN.out x (List.mem_append.2 (.inl (mem_of_get hxk)))
                have hy8 := HIN.out y (List.mem_append.2 (.inr (mem_of_get hyk)))
                obtain ⟨xn, rfl⟩ : ∃ n : Nat, x = n := ⟨x.toNat, by omega⟩
                obtain ⟨yn, rfl⟩ : ∃ n : Nat, y = n := ⟨y.toNat, by omega⟩
                have hxn := hx8.2
                have hyn := hy8.2
                have hlt2 : (kk : Int) < (late.length : Int) := by have := HLE.out; omega
                obtain ⟨b3, o3, e3, cx⟩ := (HA'.out wr (h21.trans hx)).at_ hxk
                obtain ⟨b4, o4, e4, cy⟩ := (HL'.out wr (h21.trans hx)).at_ hyk
                have HVE := hid (vds_get (g := gapsM allT c) hxk hyk)
                have HCY : Hid (∀ w', Ext wr w' → w'.cell? ⟨b4, o4 + kk, none⟩ = some (.int .i64 (yn : Int))) := fun w' h => h.cell cy
                obtain ⟨hno, hyes⟩ := who_no_yes H0.out HCL.out hxn hyn
                obtain ⟨nv, hnv⟩ : ∃ b, decide (gapsM allT c xn yn ≤ 0) = b := ⟨_, rfl⟩
                obtain ⟨yv, hyv⟩ : ∃ b, decide (gapsM allT c yn xn < 0) = b := ⟨_, rfl⟩
                rw [hnv] at hno
                rw [hyv] at hyes
                have HNO := hid hno
                have HYES := hid hyes
                obtain ⟨vd, hvd⟩ : ∃ v, verdictM (gapsM allT c) xn yn = v := ⟨_, rfl⟩
                have HVV : Hid (vd = if yv then 1 else if nv then 2 else 0) := by
                  unfold Hid
                  rw [← hvd, ← hnv, ← hyv]
                  unfold verdictM
                  simp only [decide_eq_true_eq]
                rw [hvd] at HVE
                have HT2 : Hid ((vdsL (gapsM allT c) row late).take (kk + 1) = (vdsL (gapsM allT c) row late).take kk ++ [vd]) := take_next HVE.out
                have hr8 := HRL8.out
                clear hxk hyk hx8 hy8 hno hyes hnv hyv hvd cy HVE
                cases e3
                cases e4
                have HHX : Ext wr wr := Ext.refl _
                obtain ⟨⟨a0, a1, a2, a3⟩, ⟨x0, x1, x2, x3⟩, q0, q1, q2, q3⟩ := FC.out wr ((h21.trans hx))
                go_wp2
                clear a0 a1 a2 a3 x0 x1 x2 x3 q0 q1 q2 q3
                refine wp_region_shut Ext (fun w' => Ext wr w') (fun | 7 => some (fun v _ => v = .bool nv) | _ => none) (by kernel_rfl) (by kernel_rfl) (fun _ _ h k => h.trans k) ?hR3 (Ext.drew (Ext.refl wr)) ?_
                case hR3 =>
                  intro i R hR
                  match i, hR with
                  | 7, hR => cases hR; exact fun _ _ _ h _ => h
                refine wM_val ?ud3_0 rfl rfl Ext.refl (fun w' hD => ?hd3_0) (fun phd3_0 => ?nd3_0)
                case hd3_0 =>
                  obtain ⟨-, ⟨d0, d1, d2, d3⟩, -⟩ := FC.out _ ((h21.trans hx).trans hD.1); have dy := HCY.out _ hD.1
                  go_simp; rfl
                simp only [Act.put, List.setIfInBounds_toArray, List.set_cons_succ, List.set_cons_zero, Nat.reduceAdd]
                refine wM_val ?ud3_1 rfl rfl Ext.refl (fun w' hD => ?hd3_1) (fun phd3_1 => ?nd3_1)
                case hd3_1 =>
                  obtain ⟨-, ⟨d0, d1, d2, d3⟩, -⟩ := FC.out _ ((h21.trans hx).trans hD.1); have dy := HCY.out _ hD.1
                  go_simp; rfl
                simp only [Act.put, List.setIfInBounds_toArray, List.set_cons_succ, List.set_cons_zero, Nat.reduceAdd]
                refine wM_val ?ud3_2 rfl rfl Ext.refl (fun w' hD => ?hd3_2) (fun phd3_2 => ?nd3_2)
                case hd3_2 =>
                  obtain ⟨-, ⟨d0, d1, d2, d3⟩, -⟩ := FC.out _ ((h21.trans hx).trans hD.1); have dy := HCY.out _ hD.1
                  go_simp; rfl
                simp only [Act.put, List.setIfInBounds_toArray, List.set_cons_succ, List.set_cons_zero, Nat.reduceAdd]
                refine wM_val ?ud3_3 rfl rfl Ext.refl (fun w' hD => ?hd3_3) (fun phd3_3 => ?nd3_3)
                case hd3_3 =>
                  obtain ⟨-, ⟨d0, d1, d2, d3⟩, -⟩ := FC.out _ ((h21.trans hx).trans hD.1); have dy := HCY.out _ hD.1
                  go_simp; rfl
                simp only [Act.put, List.setIfInBounds_toArray, List.set_cons_succ, List.set_cons_zero, Nat.reduceAdd]
                refine wM_val ?ud3_4 rfl rfl Ext.refl (fun w' hD => ?hd3_4) (fun phd3_4 => ?nd3_4)
                case hd3_4 =>
                  obtain ⟨-, ⟨d0, d1, d2, d3⟩, -⟩ := FC.out _ ((h21.trans hx).trans hD.1); have dy := HCY.out _ hD.1
                  go_simp; rfl
                simp only [Act.put, List.setIfInBounds_toArray, List.set_cons_succ, List.set_cons_zero, Nat.reduceAdd]
                refine wM_val ?ud3_5 rfl rfl Ext.refl (fun w' hD => ?hd3_5) (fun phd3_5 => ?nd3_5)
                case hd3_5 =>
                  obtain ⟨-, ⟨d0, d1, d2, d3⟩, -⟩ := FC.out _ ((h21.trans hx).trans hD.1); have dy := HCY.out _ hD.1
                  go_simp; rfl
                simp only [Act.put, List.setIfInBounds_toArray, List.set_cons_succ, List.set_cons_zero, Nat.reduceAdd]
                refine wM_val ?ud3_6 rfl rfl Ext.refl (fun w' hD => ?hd3_6) (fun phd3_6 => ?nd3_6)
                case hd3_6 =>
                  obtain ⟨-, ⟨d0, d1, d2, d3⟩, -⟩ := FC.out _ ((h21.trans hx).trans hD.1); have dy := HCY.out _ hD.1
                  go_simp; rfl
                simp only [Act.put, List.setIfInBounds_toArray, List.set_cons_succ, List.set_cons_zero, Nat.reduceAdd]
                refine wM_op _ rfl rfl (opens_call ?fd3_7 ?gd3_7 (fun w' hD => ?hd3_7) (fun w' hD => ?cd3_7)) (fun v7 hv7 => ?nd3_7)
                case hd3_7 => go_simp; constructor <;> rfl
                case cd3_7 =>
                  have K := refno_any _ c (some ⟨Be, 0, none⟩) c.wi.toNat (rl c.wi.toNat fun _ => true) xn yn w' (HXX.out w' ((h21.trans hx).trans hD.1)) HSZ.out H0.out (HBB.out w' (hx.trans hD.1)) (rl_len _ _) hxn hyn
                  rw [rl_len, HNO.out] at K
                  refine K.mono ?_
                  rintro e w2 ⟨rfl, hb⟩
                  exact ⟨_, rfl, hb, rfl⟩
                obtain ⟨_, -, -, rfl⟩ := hv7
                simp only [Act.put, List.setIfInBounds_toArray, List.set_cons_succ, List.set_cons_zero, Nat.reduceAdd]
                refine wM_nil ?_
                intro w23 hw23 hF9
                clear hF9
                cases nv
                · obtain ⟨⟨a0, a1, a2, a3⟩, ⟨x0, x1, x2, x3⟩, q0, q1, q2, q3⟩ := FC.out w23 (((h21.trans hx).trans hw23))
                  go_wp2
                  clear a0 a1 a2 a3 x0 x1 x2 x3 q0 q1 q2 q3
                  refine wp_region_shut Ext (fun w' => Ext w23 w') (fun | 7 => some (fun v _ => v = .bool yv) | _ => none) (by kernel_rfl) (by kernel_rfl) (fun _ _ h k => h.trans k) ?hR4 (Ext.drew (Ext.refl w23)) ?_
                  case hR4 =>
                    intro i R hR
                    match i, hR with
                    | 7, hR => cases hR; exact fun _ _ _ h _ => h
                  refine wM_val ?ud4_0 rfl rfl Ext.refl (fun w' hD => ?hd4_0) (fun phd4_0 => ?nd4_0)
                  case hd4_0 =>
                    obtain ⟨-, ⟨d0, d1, d2, d3⟩, -⟩ := FC.out _ (((h21.trans hx).trans hw23).trans hD.1); have dy := HCY.out _ (hw23.trans hD.1)
                    go_simp; rfl
                  simp only [Act.put, List.setIfInBounds_toArray, List.set_cons_succ, List.set_cons_zero, Nat.reduceAdd]
                  refine wM_val ?ud4_1 rfl rfl Ext.refl (fun w' hD => ?hd4_1) (fun phd4_1 => ?nd4_1)
                  case hd4_1 =>
                    obtain ⟨-, ⟨d0, d1, d2, d3⟩, -⟩ := FC.out _ (((h21.trans hx).trans hw23).trans hD.1); have dy := HCY.out _ (hw23.trans hD.1)
                    go_simp; rfl
                  simp only [Act.put, List.setIfInBounds_toArray, List.set_cons_succ, List.set_cons_zero, Nat.reduceAdd]
                  refine wM_val ?ud4_2 rfl rfl Ext.refl (fun w' hD => ?hd4_2) (fun phd4_2 => ?nd4_2)
                  case hd4_2 =>
                    obtain ⟨-, ⟨d0, d1, d2, d3⟩, -⟩ := FC.out _ (((h21.trans hx).trans hw23).trans hD.1); have dy := HCY.out _ (hw23.trans hD.1)
                    go_simp; rfl
                  simp only [Act.put, List.setIfInBounds_toArray, List.set_cons_succ, List.set_cons_zero, Nat.reduceAdd]
                  refine wM_val ?ud4_3 rfl rfl Ext.refl (fun w' hD => ?hd4_3) (fun phd4_3 => ?nd4_3)
                  case hd4_3 =>
                    obtain ⟨-, ⟨d0, d1, d2, d3⟩, -⟩ := FC.out _ (((h21.trans hx).trans hw23).trans hD.1); have dy := HCY.out _ (hw23.trans hD.1)
                    go_simp; rfl
                  simp only [Act.put, List.setIfInBounds_toArray, List.set_cons_succ, List.set_cons_zero, Nat.reduceAdd]
                  refine wM_val ?ud4_4 rfl rfl Ext.refl (fun w' hD => ?hd4_4) (fun phd4_4 => ?nd4_4)
                  case hd4_4 =>
                    obtain ⟨-, ⟨d0, d1, d2, d3⟩, -⟩ := FC.out _ (((h21.trans hx).trans hw23).trans hD.1); have dy := HCY.out _ (hw23.trans hD.1)
                    go_simp; rfl
                  simp only [Act.put, List.setIfInBounds_toArray, List.set_cons_succ, List.set_cons_zero, Nat.reduceAdd]
                  refine wM_val ?ud4_5 rfl rfl Ext.refl (fun w' hD => ?hd4_5) (fun phd4_5 => ?nd4_5)
                  case hd4_5 =>
                    obtain ⟨-, ⟨d0, d1, d2, d3⟩, -⟩ := FC.out _ (((h21.trans hx).trans hw23).trans hD.1); have dy := HCY.out _ (hw23.trans hD.1)
                    go_simp; rfl
                  simp only [Act.put, List.setIfInBounds_toArray, List.set_cons_succ, List.set_cons_zero, Nat.reduceAdd]
                  refine wM_val ?ud4_6 rfl rfl Ext.refl (fun w' hD => ?hd4_6) (fun phd4_6 => ?nd4_6)
                  case hd4_6 =>
                    obtain ⟨-, ⟨d0, d1, d2, d3⟩, -⟩ := FC.out _ (((h21.trans hx).trans hw23).trans hD.1); have dy := HCY.out _ (hw23.trans hD.1)
                    go_simp; rfl
                  simp only [Act.put, List.setIfInBounds_toArray, List.set_cons_succ, List.set_cons_zero, Nat.reduceAdd]
                  refine wM_op _ rfl rfl (opens_call ?fd4_7 ?gd4_7 (fun w' hD => ?hd4_7) (fun w' hD => ?cd4_7)) (fun v7 hv7 => ?nd4_7)
                  case hd4_7 => go_simp; constructor <;> rfl
                  case cd4_7 =>
                    have K := refyes_any _ c (some ⟨Be, 0, none⟩) c.wi.toNat (rl c.wi.toNat fun _ => true) xn yn w' (HXX.out w' (((h21.trans hx).trans hw23).trans hD.1)) HSZ.out H0.out (HBB.out w' ((hx.trans hw23).trans hD.1)) (rl_len _ _) hxn hyn
                    rw [rl_len, HYES.out] at K
                    refine K.mono ?_
                    rintro e w2 ⟨rfl, hb⟩
                    exact ⟨_, rfl, hb, rfl⟩
                  obtain ⟨_, -, -, rfl⟩ := hv7
                  simp only [Act.put, List.setIfInBounds_toArray, List.set_cons_succ, List.set_cons_zero, Nat.reduceAdd]
                  refine wM_nil ?_
                  intro w24 hw24 hF9
                  clear hF9
                  cases yv
                  · have HVQ : Hid (vd = 0) := HVV.out
                    have O2 := hid (own_below (own_below O.out (hw23.trans hw24)) (Ext.alloc (Ext.refl w24) (.cells #[.int .i64 (0)] 39)))
                    have hbase : wc.heap.size ≤ (w24.alloc (.cells #[.int .i64 (0)] 39)).heap.size := by have h1 := hx.size; have h2 := ((hw23.trans hw24)).size; have h3 := (Ext.alloc (Ext.refl w24) (.cells #[.int .i64 (0)] 39)).size; omega
                    have hxo : Ext wc (w24.alloc (.cells #[.int .i64 (0)] 39)) := (hx.trans (hw23.trans hw24)).trans (Ext.alloc (Ext.refl w24) _)
                    have hFk : (kk + 1) * 8 ≤ 140737488355328 := by omega
                    clear O
                    go_wp2_with (at_builtin; refine wpList_append_rd _ rfl _ _ 94 rfl elem_vd wc.heap.size _ kk (icells ((vdsL (gapsM allT c) row late).take kk)) rfl O2.out _ 1 1 (icells [0]) rfl rfl (rd_block (heap_alloc_new w24 _)) (icells_one _) hFk hbase ?_)
                    intro A6 k6 w5 hown5 hbel5 hgr5 _
                    have hx5 : Ext wc w5 := Below.trans hxo hbel5
                    have O5 : Hid (w5.ownsRow wc.heap.size 39 1 (.slice A6 (kk + 1) k6) (kk + 1) (icells ((vdsL (gapsM allT c) row late).take (kk + 1)))) := by
                      unfold Hid; rw [HT2.out, HVQ.out, icells_app]; exact hown5
                    clear hown5 hbel5 hgr5 O2 hxo
                    go_wp2
                    go_roundw
                    case rel => exact ⟨kk + 1, A6, k6, by omega, by go_num, rfl, hx5, O5⟩
                    case measure => simp [intOf]; omega
                  · have HVQ : Hid (vd = 1) := HVV.out
                    have O2 := hid (own_below (own_below O.out (hw23.trans hw24)) (Ext.alloc (Ext.refl w24) (.cells #[.int .i64 (1)] 39)))
                    have hbase : wc.heap.size ≤ (w24.alloc (.cells #[.int .i64 (1)] 39)).heap.size := by have h1 := hx.size; have h2 := ((hw23.trans hw24)).size; have h3 := (Ext.alloc (Ext.refl w24) (.cells #[.int .i64 (1)] 39)).size; omega
                    have hxo : Ext wc (w24.alloc (.cells #[.int .i64 (1)] 39)) := (hx.trans (hw23.trans hw24)).trans (Ext.alloc (Ext.refl w24) _)
                    have hFk : (kk + 1) * 8 ≤ 140737488355328 := by omega
                    clear O
                    go_wp2_with (at_builtin; refine wpList_append_rd _ rfl _ _ 94 rfl elem_vd wc.heap.size _ kk (icells ((vdsL (gapsM allT c) row late).take kk)) rfl O2.out _ 1 1 (icells [1]) rfl rfl (rd_block (heap_alloc_new w24 _)) (icells_one _) hFk hbase ?_)
                    intro A6 k6 w5 hown5 hbel5 hgr5 _
                    have hx5 : Ext wc w5 := Below.trans hxo hbel5
                    have O5 : Hid (w5.ownsRow wc.heap.size 39 1 (.slice A6 (kk + 1) k6) (kk + 1) (icells ((vdsL (gapsM allT c) row late).take (kk + 1)))) := by
                      unfold Hid; rw [HT2.out, HVQ.out, icells_app]; exact hown5
                    clear hown5 hbel5 hgr5 O2 hxo
                    go_wp2
                    go_roundw
                    case rel => exact ⟨kk + 1, A6, k6, by omega, by go_num, rfl, hx5, O5⟩
                    case measure => simp [intOf]; omega
                · obtain ⟨⟨a0, a1, a2, a3⟩, ⟨x0, x1, x2, x3⟩, q0, q1, q2, q3⟩ := FC.out w23 (((h21.trans hx).trans hw23))
                  go_wp2
                  clear a0 a1 a2 a3 x0 x1 x2 x3 q0 q1 q2 q3
                  refine wp_region_shut Ext (fun w' => Ext w23 w') (fun | 7 => some (fun v _ => v = .bool yv) | _ => none) (by kernel_rfl) (by kernel_rfl) (fun _ _ h k => h.trans k) ?hR5 (Ext.drew (Ext.refl w23)) ?_
                  case hR5 =>
                    intro i R hR
                    match i, hR with
                    | 7, hR => cases hR; exact fun _ _ _ h _ => h
                  refine wM_val ?ud5_0 rfl rfl Ext.refl (fun w' hD => ?hd5_0) (fun phd5_0 => ?nd5_0)
                  case hd5_0 =>
                    obtain ⟨-, ⟨d0, d1, d2, d3⟩, -⟩ := FC.out _ (((h21.trans hx).trans hw23).trans hD.1); have dy := HCY.out _ (hw23.trans hD.1)
                    go_simp; rfl
                  simp only [Act.put, List.setIfInBounds_toArray, List.set_cons_succ, List.set_cons_zero, Nat.reduceAdd]
                  refine wM_val ?ud5_1 rfl rfl Ext.refl (fun w' hD => ?hd5_1) (fun phd5_1 => ?nd5_1)
                  case hd5_1 =>
                    obtain ⟨-, ⟨d0, d1, d2, d3⟩, -⟩ := FC.out _ (((h21.trans hx).trans hw23).trans hD.1); have dy := HCY.out _ (hw23.trans hD.1)
                    go_simp; rfl
                  simp only [Act.put, List.setIfInBounds_toArray, List.set_cons_succ, List.set_cons_zero, Nat.reduceAdd]
                  refine wM_val ?ud5_2 rfl rfl Ext.refl (fun w' hD => ?hd5_2) (fun phd5_2 => ?nd5_2)
                  case hd5_2 =>
                    obtain ⟨-, ⟨d0, d1, d2, d3⟩, -⟩ := FC.out _ (((h21.trans hx).trans hw23).trans hD.1); have dy := HCY.out _ (hw23.trans hD.1)
                    go_simp; rfl
                  simp only [Act.put, List.setIfInBounds_toArray, List.set_cons_succ, List.set_cons_zero, Nat.reduceAdd]
                  refine wM_val ?ud5_3 rfl rfl Ext.refl (fun w' hD => ?hd5_3) (fun phd5_3 => ?nd5_3)
                  case hd5_3 =>
                    obtain ⟨-, ⟨d0, d1, d2, d3⟩, -⟩ := FC.out _ (((h21.trans hx).trans hw23).trans hD.1); have dy := HCY.out _ (hw23.trans hD.1)
                    go_simp; rfl
                  simp only [Act.put, List.setIfInBounds_toArray, List.set_cons_succ, List.set_cons_zero, Nat.reduceAdd]
                  refine wM_val ?ud5_4 rfl rfl Ext.refl (fun w' hD => ?hd5_4) (fun phd5_4 => ?nd5_4)
                  case hd5_4 =>
                    obtain ⟨-, ⟨d0, d1, d2, d3⟩, -⟩ := FC.out _ (((h21.trans hx).trans hw23).trans hD.1); have dy := HCY.out _ (hw23.trans hD.1)
                    go_simp; rfl
                  simp only [Act.put, List.setIfInBounds_toArray, List.set_cons_succ, List.set_cons_zero, Nat.reduceAdd]
                  refine wM_val ?ud5_5 rfl rfl Ext.refl (fun w' hD => ?hd5_5) (fun phd5_5 => ?nd5_5)
                  case hd5_5 =>
                    obtain ⟨-, ⟨d0, d1, d2, d3⟩, -⟩ := FC.out _ (((h21.trans hx).trans hw23).trans hD.1); have dy := HCY.out _ (hw23.trans hD.1)
                    go_simp; rfl
                  simp only [Act.put, List.setIfInBounds_toArray, List.set_cons_succ, List.set_cons_zero, Nat.reduceAdd]
                  refine wM_val ?ud5_6 rfl rfl Ext.refl (fun w' hD => ?hd5_6) (fun phd5_6 => ?nd5_6)
                  case hd5_6 =>
                    obtain ⟨-, ⟨d0, d1, d2, d3⟩, -⟩ := FC.out _ (((h21.trans hx).trans hw23).trans hD.1); have dy := HCY.out _ (hw23.trans hD.1)
                    go_simp; rfl
                  simp only [Act.put, List.setIfInBounds_toArray, List.set_cons_succ, List.set_cons_zero, Nat.reduceAdd]
                  refine wM_op _ rfl rfl (opens_call ?fd5_7 ?gd5_7 (fun w' hD => ?hd5_7) (fun w' hD => ?cd5_7)) (fun v7 hv7 => ?nd5_7)
                  case hd5_7 => go_simp; constructor <;> rfl
                  case cd5_7 =>
                    have K := refyes_any _ c (some ⟨Be, 0, none⟩) c.wi.toNat (rl c.wi.toNat fun _ => true) xn yn w' (HXX.out w' (((h21.trans hx).trans hw23).trans hD.1)) HSZ.out H0.out (HBB.out w' ((hx.trans hw23).trans hD.1)) (rl_len _ _) hxn hyn
                    rw [rl_len, HYES.out] at K
                    refine K.mono ?_
                    rintro e w2 ⟨rfl, hb⟩
                    exact ⟨_, rfl, hb, rfl⟩
                  obtain ⟨_, -, -, rfl⟩ := hv7
                  simp only [Act.put, List.setIfInBounds_toArray, List.set_cons_succ, List.set_cons_zero, Nat.reduceAdd]
                  refine wM_nil ?_
                  intro w24 hw24 hF9
                  clear hF9
                  cases yv
                  · have HVQ : Hid (vd = 2) := HVV.out
                    have O2 := hid (own_below (own_below O.out (hw23.trans hw24)) (Ext.alloc (Ext.refl w24) (.cells #[.int .i64 (2)] 39)))
                    have hbase : wc.heap.size ≤ (w24.alloc (.cells #[.int .i64 (2)] 39)).heap.size := by have h1 := hx.size; have h2 := ((hw23.trans hw24)).size; have h3 := (Ext.alloc (Ext.refl w24) (.cells #[.int .i64 (2)] 39)).size; omega
                    have hxo : Ext wc (w24.alloc (.cells #[.int .i64 (2)] 39)) := (hx.trans (hw23.trans hw24)).trans (Ext.alloc (Ext.refl w24) _)
                    have hFk : (kk + 1) * 8 ≤ 140737488355328 := by omega
                    clear O
                    go_wp2_with (at_builtin; refine wpList_append_rd _ rfl _ _ 94 rfl elem_vd wc.heap.size _ kk (icells ((vdsL (gapsM allT c) row late).take kk)) rfl O2.out _ 1 1 (icells [2]) rfl rfl (rd_block (heap_alloc_new w24 _)) (icells_one _) hFk hbase ?_)
                    intro A6 k6 w5 hown5 hbel5 hgr5 _
                    have hx5 : Ext wc w5 := Below.trans hxo hbel5
                    have O5 : Hid (w5.ownsRow wc.heap.size 39 1 (.slice A6 (kk + 1) k6) (kk + 1) (icells ((vdsL (gapsM allT c) row late).take (kk + 1)))) := by
                      unfold Hid; rw [HT2.out, HVQ.out, icells_app]; exact hown5
                    clear hown5 hbel5 hgr5 O2 hxo
                    go_wp2
                    go_roundw
                    case rel => exact ⟨kk + 1, A6, k6, by omega, by go_num, rfl, hx5, O5⟩
                    case measure => simp [intOf]; omega
                  · have HVQ : Hid (vd = 1) := HVV.out
                    have O2 := hid (own_below (own_below O.out (hw23.trans hw24)) (Ext.alloc (Ext.refl w24) (.cells #[.int .i64 (1)] 39)))
                    have hbase : wc.heap.size ≤ (w24.alloc (.cells #[.int .i64 (1)] 39)).heap.size := by have h1 := hx.size; have h2 := ((hw23.trans hw24)).size; have h3 := (Ext.alloc (Ext.refl w24) (.cells #[.int .i64 (1)] 39)).size; omega
                    have hxo : Ext wc (w24.alloc (.cells #[.int .i64 (1)] 39)) := (hx.trans (hw23.trans hw24)).trans (Ext.alloc (Ext.refl w24) _)
                    have hFk : (kk + 1) * 8 ≤ 140737488355328 := by omega
                    clear O
                    go_wp2_with (at_builtin; refine wpList_append_rd _ rfl _ _ 94 rfl elem_vd wc.heap.size _ kk (icells ((vdsL (gapsM allT c) row late).take kk)) rfl O2.out _ 1 1 (icells [1]) rfl rfl (rd_block (heap_alloc_new w24 _)) (icells_one _) hFk hbase ?_)
                    intro A6 k6 w5 hown5 hbel5 hgr5 _
                    have hx5 : Ext wc w5 := Below.trans hxo hbel5
                    have O5 : Hid (w5.ownsRow wc.heap.size 39 1 (.slice A6 (kk + 1) k6) (kk + 1) (icells ((vdsL (gapsM allT c) row late).take (kk + 1)))) := by
                      unfold Hid; rw [HT2.out, HVQ.out, icells_app]; exact hown5
                    clear hown5 hbel5 hgr5 O2 hxo
                    go_wp2
                    go_roundw
                    case rel => exact ⟨kk + 1, A6, k6, by omega, by go_num, rfl, hx5, O5⟩
                    case measure => simp [intOf]; omega
              · have hlt' : ¬ (kk : Int) < (row.length : Int) := by omega
                obtain rfl : kk = row.length := by omega
                have hO := O.out
                rw [List.take_of_length_le (by rw [HVN.out]; omega)] at hO
                have HO2 := hid hO
                clear O hO
                go_wp2_with fail
                go_meet
                exact ⟨hx, A5, k5, by rw [HVD.out, HVN.out], by rw [HVD.out]; exact Rd.of_own HO2.out⟩
          · have bU : (U != 0) = true := by simpa using hU
            have hvl := HVL.out
            rw [if_neg hU] at hvl
            subst hvl
            go_wp2_with fail
            go_loopw [22, 111] (fun s i wr => i = .int .i64 0 ∧ s = .slice none 0 0 ∧ wc = wr) (fun _ _ _ => 0)
            case atStart => exact ⟨rfl, rfl, rfl⟩
            case round =>
              obtain ⟨rfl, rfl, hwr⟩ := hrel
              subst hwr
              by_cases hlt : 0 < row.length
              · have hlt' : (0 : Int) < (row.length : Int) := by omega
                obtain ⟨x, hxk⟩ := get_of_lt row 0 hlt
                obtain ⟨b3, o3, e3, cx⟩ := (HA'.out wc h21).at_ hxk
                cases e3
                rw [Nat.add_zero] at cx
                go_wp2_with fail
                go_meet
                exact ⟨Ext.refl _, none, 0, rfl, Ints.nil _ _⟩
              · have hlt' : ¬ (0 : Int) < (row.length : Int) := by omega
                go_wp2_with fail
                go_meet
                exact ⟨Ext.refl _, none, 0, rfl, Ints.nil _ _⟩
      case rest =>
        obtain ⟨hx22, A7, k7, rfl, hI7⟩ := hcut
        have h22 := h21.trans hx22
        have HI7 : Hid (∀ w', Ext wc w' → Ints w' A7 VL) := fun w' h => hI7.ext h
        have HALLG : Hid (∀ w', Ext wc w' → ((V ≠ 0 ∧ u20 = .slice none 0 0) ∨ (V = 0 ∧ ∃ Be, u20 = .slice (some ⟨Be, 0, none⟩) c.wi.toNat c.wi.toNat ∧ Bools w' (some ⟨Be, 0, none⟩) (rl c.wi.toNat fun _ => true)))) := fun w' h => HALLF.out w' (hx22.trans h)
        clear hI7 hx22 HALLF h21
        obtain ⟨PL, hPL⟩ : ∃ l, (if V = 0 then orderL c else []) = l := ⟨_, rfl⟩
        have HPL := hid hPL
        clear hPL
        go_upto_block 4 with fail
        go_cut [26] (fun s26 wx => Ext wc wx ∧ ∃ A8 k8, s26 = .slice A8 PL.length k8 ∧ Pairs wx A8 PL)
        case first =>
          as_aux_lemma =>
            by_cases hV : V = 0
            · subst hV
              have hpl := HPL.out
              rw [if_pos rfl] at hpl
              have hk0 := toldC_check HT.out
              have hcl : clashM (gapsM allT c) = false := by
                have h := HT.out
                unfold toldC at h
                rw [if_pos hk0] at h
                cases hq : clashM (gapsM allT c)
                · rfl
                · rw [hq] at h; cases h
              have H0 := hid hk0
              have HCL := hid hcl
              have hev := checkC_ev hk0
              obtain ⟨n, hn⟩ : ∃ n : Nat, c.ev = n := ⟨c.ev.toNat, by omega⟩
              have HNV := hid hn
              have hev0 : EV = (n : Int) := by rw [← HEV.out, if_pos rfl, hn]
              subst hev0
              have hn8 : n ≤ 8 := by omega
              obtain ⟨Be, rfl, hBe⟩ : ∃ Be, _ = Value.slice (some ⟨Be, 0, none⟩) c.wi.toNat c.wi.toNat ∧ Bools wc (some ⟨Be, 0, none⟩) (rl c.wi.toNat fun _ => true) := by
                rcases HALLG.out wc (Ext.refl _) with ⟨hv, _⟩ | ⟨_, Be, e, hb⟩
                · exact absurd rfl hv
                · exact ⟨Be, e, hb⟩
              have HBB : Hid (∀ w', Ext wc w' → Bools w' (some ⟨Be, 0, none⟩) (rl c.wi.toNat fun _ => true)) := fun w' h => hBe.ext h
              obtain ⟨g, hg⟩ : ∃ g, gapsM allT c = g := ⟨_, rfl⟩
              have HPO : Hid (PL = orderTo g n n 0) := by
                unfold Hid
                rw [← hpl, ← hg]
                unfold orderL
                rw [show c.ev.toNat = n by omega]
              have HYE : Hid (∀ x y : Nat, x < n → y < n → yesR (belT (rl c.wi.toNat fun _ => true)) c x y = decide (verdictM g x y = 1)) := fun x y hx hy => by
                rw [(who_no_yes H0.out HCL.out (a := x) (b := y) (by rw [HNV.out]; omega) (by rw [HNV.out]; omega)).2, hg, decide_eq_decide]
                exact verdict_yes.symm
              clear hpl hk0 hcl hev hn hBe hg HPL HEV
              go_wp2_with fail
              go_loopw [26, 140] (fun o i wr => ∃ (x : Nat) (A5 : Option Addr) (k5 : Nat) (L : List (Int × Int)), o = .slice A5 L.length k5 ∧ i = .int .i64 (x : Int) ∧ x ≤ n ∧ L.length ≤ 8 * x ∧ Hid (L = orderTo g n x 0) ∧ Hid (wr.ownsRow wc.heap.size 92 2 (.slice A5 L.length k5) L.length (pcells L)) ∧ Ext wc wr) (fun _ i _ => n - (intOf i).toNat)
              case atStart => exact ⟨0, none, 0, [], rfl, rfl, Nat.zero_le _, by simp, by unfold Hid; simp [orderTo, rowO], own_nil _ _ _ _, Ext.refl _⟩
              case round =>
                obtain ⟨x, A5, k5, L, rfl, rfl, hxn, hL, HL, O, hx⟩ := hrel
                by_cases hlt : x < n
                · have hlt' : (x : Int) < (n : Int) := by omega
                  obtain ⟨wo, rfl⟩ : ∃ wo : World, wo = wr := ⟨_, rfl⟩
                  go_wp2
                  go_loopw [26, 144] (fun o i wr => ∃ (y : Nat) (A5 : Option Addr) (k5 : Nat) (L : List (Int × Int)), o = .slice A5 L.length k5 ∧ i = .int .i64 (y : Int) ∧ y ≤ n ∧ L.length ≤ 8 * x + y ∧ Hid (L = orderTo g n x y) ∧ Hid (wr.ownsRow wc.heap.size 92 2 (.slice A5 L.length k5) L.length (pcells L)) ∧ Ext wc wr) (fun _ i _ => n - (intOf i).toNat)
                  case atStart => exact ⟨0, A5, k5, L, rfl, rfl, Nat.zero_le _, by omega, HL, O, hx⟩
                  case round =>
                    obtain ⟨y, A5, k5, L, rfl, rfl, hyn, hL, HL, O, hx⟩ := hrel
                    by_cases hltb : y < n
                    · have hltb' : (y : Int) < (n : Int) := by omega
                      have HST := hid (orderTo_step g n x y)
                      have K := refyes_any _ c (some ⟨Be, 0, none⟩) c.wi.toNat (rl c.wi.toNat fun _ => true) x y wr (HXX.out wr (h22.trans hx)) HSZ.out H0.out (HBB.out wr hx) (rl_len _ _) (by rw [HNV.out]; exact hlt') (by rw [HNV.out]; exact hltb')
                      rw [rl_len, HYE.out x y hlt hltb] at K
                      by_cases hv : verdictM g x y = 1
                      · have HS2 : Hid (orderTo g n x (y + 1) = L ++ [((x : Int), (y : Int))]) := by unfold Hid; rw [HST.out, if_pos hv, HL.out]
                        rw [decide_eq_true hv] at K
                        have HK := hid K
                        clear K
                        obtain ⟨-, ⟨x0, x1, x2, x3⟩, -⟩ := FC.out wr (h22.trans hx)
                        go_wp2_with fail
                        clear x0 x1 x2 x3
                        refine HK.out.mono ?_
                        clear HK
                        rintro e w2 ⟨rfl, hx2⟩
                        have hsz := hx.size
                        have hs2 := hx2.size
                        have hxo := Ext.alloc (Ext.refl w2) (.cells #[.int .i64 (x : Int), .int .i64 (y : Int)] 92)
                        have hbase : wc.heap.size ≤ (w2.alloc (.cells #[.int .i64 (x : Int), .int .i64 (y : Int)] 92)).heap.size := by have := hxo.size; omega
                        have O2 := hid (own_below (own_below O.out hx2) hxo)
                        have hLb : (L.length + 1) * 16 ≤ 140737488355328 := by omega
                        clear HST hv HL O
                        go_wp2_with (at_builtin; refine wpList_append_rd _ rfl _ _ 89 rfl elem_pair wc.heap.size _ L.length (pcells L) rfl O2.out _ 1 1 (pcells [((x : Int), (y : Int))]) rfl rfl (rd_block (heap_alloc_new w2 _)) (pcells_one _) hLb hbase ?_)
                        intro A6 k6 w5 hown5 hbel5 hgr5 _
                        have hx5 : Ext wc w5 := Below.trans ((hx.trans hx2).trans hxo) hbel5
                        have HL5 : Hid ((L ++ [((x : Int), (y : Int))]).length = L.length + 1) := by unfold Hid; simp
                        have O5 : Hid (w5.ownsRow wc.heap.size 92 2 (.slice A6 (L ++ [((x : Int), (y : Int))]).length k6) (L ++ [((x : Int), (y : Int))]).length (pcells (L ++ [((x : Int), (y : Int))]))) := by
                          unfold Hid; rw [HL5.out, pcells_app]; exact hown5
                        have hl9 : (L ++ [((x : Int), (y : Int))]).length ≤ 8 * x + (y + 1) := by have := HL5.out; omega
                        have hsl : Value.slice A6 (L.length + 1) k6 = .slice A6 (L ++ [((x : Int), (y : Int))]).length k6 := by simp
                        have HSL := hid hsl
                        clear hown5 hbel5 hgr5 O2 hxo hsl
                        go_wp2
                        go_roundw
                        case rel => exact ⟨y + 1, A6, k6, L ++ [((x : Int), (y : Int))], HSL.out, by go_num, by omega, hl9, HS2.out.symm, O5, hx5⟩
                        case measure => simp [intOf]; omega
                      · have HS2 : Hid (orderTo g n x (y + 1) = L) := by unfold Hid; rw [HST.out, if_neg hv, HL.out, List.append_nil]
                        rw [decide_eq_false hv] at K
                        have HK := hid K
                        clear K
                        obtain ⟨-, ⟨x0, x1, x2, x3⟩, -⟩ := FC.out wr (h22.trans hx)
                        go_wp2_with fail
                        clear x0 x1 x2 x3
                        refine HK.out.mono ?_
                        clear HK HST hv HL
                        rintro e w2 ⟨rfl, hx2⟩
                        have O2 := hid (own_below O.out hx2)
                        go_wp2
                        go_roundw
                        case rel => exact ⟨y + 1, A5, k5, L, rfl, by go_num, by omega, by omega, HS2.out.symm, O2, hx.trans hx2⟩
                        case measure => simp [intOf]; omega
                    · have hltb' : ¬ (y : Int) < (n : Int) := by omega
                      have HS2 : Hid (L = orderTo g n (x + 1) 0) := by
                        unfold Hid
                        rw [HL.out, show y = n by omega, orderTo_next]
                      clear HL
                      go_wp2
                      go_roundw
                      case rel => exact ⟨x + 1, A5, k5, L, rfl, by go_num, by omega, by omega, HS2, O, hx⟩
                      case measure => simp [intOf]; omega
                · have hlt' : ¬ (x : Int) < (n : Int) := by omega
                  have HQ : Hid (PL = L) := by unfold Hid; rw [HPO.out, HL.out, show x = n by omega]
                  clear HL HPO
                  go_wp2_with fail
                  go_meet
                  exact ⟨hx, A5, k5, by rw [HQ.out], by rw [HQ.out]; exact Rd.of_own O.out⟩
            · have hpl := HPL.out
              rw [if_neg hV] at hpl
              subst hpl
              have hev0 : EV = 0 := by rw [← HEV.out, if_neg hV]
              subst hev0
              go_wp2_with fail
              go_loopw [26, 140] (fun s i wr => i = .int .i64 0 ∧ s = .slice none 0 0 ∧ wc = wr) (fun _ _ _ => 0)
              case atStart => exact ⟨rfl, rfl, rfl⟩
              case round =>
                obtain ⟨rfl, rfl, hwr⟩ := hrel
                subst hwr
                go_wp2_with fail
                go_meet
                exact ⟨Ext.refl _, none, 0, rfl, Rd.nil _ _⟩
        case rest =>
          obtain ⟨hx23, A8, k8, rfl, hP8⟩ := hcut
          obtain ⟨w30, hw30⟩ : ∃ w30, w30 = wc := ⟨_, rfl⟩
          subst hw30
          have h30 := h22.trans hx23
          have HP8 : Hid (∀ w', Ext w30 w' → Pairs w' A8 PL) := fun w' h => hP8.ext h
          have HI8 : Hid (∀ w', Ext w30 w' → Ints w' A7 VL) := fun w' h => HI7.out w' (hx23.trans h)
          have X30 : Ext w30 w30 := Ext.refl _
          clear hP8 hx23 h22
          as_aux_lemma =>
            have HVLL : Hid (VL.length ≤ 9223372036854775807) := by
              unfold Hid
              rw [← HVL.out]
              split
              · unfold vdsL
                rw [List.length_map, List.length_zip]
                have := HLL.out
                omega
              · simp
            have HPLL : Hid (PL.length ≤ 9223372036854775807) := by
              unfold Hid
              rw [← HPL.out]
              split
              · rename_i hv
                have := order_len c (toldC_check (HT.out.trans hv))
                omega
              · simp
            have K := warned_row _ c (some ⟨gd, 0, none⟩) (some ⟨ge, 0, none⟩) kd ke row late w30 (HO.out w30 h30) HSZ.out (HD.out w30 h30) (HE.out w30 h30) (by have := HLL.out; omega) (by have := HLL.out; omega)
            unfold ListPost at K
            rw [HU.out, HVL.out] at K
            have HK := hid K
            clear K
            obtain ⟨⟨a0, a1, a2, a3⟩, ⟨x0, x1, x2, x3⟩, q0, q1, q2, q3⟩ := FC.out w30 h30
            go_wp2_with fail
            clear a0 a1 a2 a3 x0 x1 x2 x3 q0 q1 q2 q3
            refine HK.out.mono ?_
            clear HK
            rintro e w31 ⟨A31, k31, rfl, hI31, h⟩
            have h31 := h30.trans h
            have X31 := X30.trans h
            clear h
            have HI31 : Hid (∀ w', Ext w31 w' → Ints w' A31 VL) := fun w' h => hI31.ext h
            have Y31 : Ext w31 w31 := Ext.refl _
            clear hI31
            have K := order_row _ c w31 (HO.out w31 h31) HSZ.out
            rw [HT.out, HPL.out] at K
            have HK := hid K
            clear K
            obtain ⟨⟨a0, a1, a2, a3⟩, ⟨x0, x1, x2, x3⟩, q0, q1, q2, q3⟩ := FC.out w31 h31
            go_wp2_with fail
            clear a0 a1 a2 a3 x0 x1 x2 x3 q0 q1 q2 q3
            refine HK.out.mono ?_
            clear HK
            rintro e w32 ⟨A32, k32, rfl, hP32, h⟩
            have h32 := h31.trans h
            have X32 := X31.trans h
            have Y32 := Y31.trans h
            clear h
            have HP32 : Hid (∀ w', Ext w32 w' → Pairs w' A32 PL) := fun w' h => hP32.ext h
            have Z32 : Ext w32 w32 := Ext.refl _
            clear hP32
            have K := eq_vd A31 A7 k31 k7 VL VL w32 (HI31.out w32 Y32) (HI8.out w32 X32) HVLL.out HVLL.out
            rw [beq_self_eq_true] at K
            have HK := hid K
            clear K
            obtain ⟨⟨a0, a1, a2, a3⟩, ⟨x0, x1, x2, x3⟩, q0, q1, q2, q3⟩ := FC.out w32 h32
            go_wp2_with fail
            clear a0 a1 a2 a3 x0 x1 x2 x3 q0 q1 q2 q3
            refine HK.out.mono ?_
            clear HK
            rintro e w33 ⟨rfl, h⟩
            have h33 := h32.trans h
            have X33 := X32.trans h
            have Y33 := Y32.trans h
            have Z33 := Z32.trans h
            clear h
            have K := eq_pairs A32 A8 k32 k8 PL w33 (HP32.out w33 Z33) (HP8.out w33 X33) HPLL.out
            have HK := hid K
            clear K
            obtain ⟨⟨a0, a1, a2, a3⟩, ⟨x0, x1, x2, x3⟩, q0, q1, q2, q3⟩ := FC.out w33 h33
            go_wp2_with fail
            clear a0 a1 a2 a3 x0 x1 x2 x3 q0 q1 q2 q3
            refine HK.out.mono ?_
            clear HK
            rintro e w34 ⟨rfl, h⟩
            have h34 := h33.trans h
            have X34 := X33.trans h
            have Y34 := Y33.trans h
            have Z34 := Z33.trans h
            clear h
            have K := eq_int (some ⟨gd, 0, none⟩) A kd k row row w34 (HD.out w34 h34) (HA'.out w34 h34) (by have := HLL.out; omega) (by have := HLL.out; omega)
            rw [beq_self_eq_true] at K
            have HK := hid K
            clear K
            obtain ⟨⟨a0, a1, a2, a3⟩, ⟨x0, x1, x2, x3⟩, q0, q1, q2, q3⟩ := FC.out w34 h34
            go_wp2_with fail
            clear a0 a1 a2 a3 x0 x1 x2 x3 q0 q1 q2 q3
            refine HK.out.mono ?_
            clear HK
            rintro e w35 ⟨rfl, h⟩
            have h35 := h34.trans h
            have X35 := X34.trans h
            have Y35 := Y34.trans h
            have Z35 := Z34.trans h
            clear h
            have K := eq_int (some ⟨ge, 0, none⟩) A' ke kl late late w35 (HE.out w35 h35) (HL'.out w35 h35) (by have := HLL.out; omega) (by have := HLL.out; omega)
            rw [beq_self_eq_true] at K
            have HK := hid K
            clear K
            obtain ⟨⟨a0, a1, a2, a3⟩, ⟨x0, x1, x2, x3⟩, q0, q1, q2, q3⟩ := FC.out w35 h35
            go_wp2_with fail
            clear a0 a1 a2 a3 x0 x1 x2 x3 q0 q1 q2 q3
            refine HK.out.mono ?_
            clear HK
            rintro e w36 ⟨rfl, h⟩
            have h36 := h35.trans h
            have X36 := X35.trans h
            have Y36 := Y35.trans h
            have Z36 := Z35.trans h
            clear h
            obtain ⟨LL, hLL⟩ : ∃ l, liarsL c = l := ⟨_, rfl⟩
            obtain ⟨LE, hLE⟩ : ∃ l, liarsC c = l := ⟨_, rfl⟩
            obtain ⟨NL, hNL⟩ : ∃ l, neededL c a b = l := ⟨_, rfl⟩
            obtain ⟨NE, hNE⟩ : ∃ l, neededC c a b = l := ⟨_, rfl⟩
            have HLQ := hid hLL
            have HLE := hid hLE
            have HNL := hid hNL
            have HNE := hid hNE
            have HLLL : Hid (LL.length ≤ 9223372036854775807) := by
              unfold Hid
              have := liarsL_small c
              rw [hLL] at this
              omega
            have HNLL : Hid (NL.length ≤ 9223372036854775807) := by
              unfold Hid
              have := neededL_small c a b
              rw [hNL] at this
              omega
            clear hLL hLE hNL hNE
            obtain ⟨⟨a0, a1, a2, a3⟩, ⟨x0, x1, x2, x3⟩, q0, q1, q2, q3⟩ := FC.out w36 h36
            go_upto_if 206 with fail
            go_cut [33, 16] (fun s33 s16 wx => Ext w36 wx ∧ s16 = .int .i64 LE ∧ ∃ A9 k9, s33 = .slice A9 LL.length k9 ∧ Ints wx A9 LL)
            case first =>
              as_aux_lemma =>
                by_cases hM0 : M = 0
                · subst hM0
                  have K := refliars_row _ c w36 (HXX.out w36 h36) HSZ.out HM.out
                  unfold ListPost at K
                  rw [HLQ.out, HLE.out] at K
                  have HK := hid K
                  clear K
                  go_wp2_with fail
                  clear a0 a1 a2 a3 x0 x1 x2 x3 q0 q1 q2 q3
                  refine HK.out.mono ?_
                  rintro e w37 ⟨A9, k9, rfl, hI9, h⟩
                  have HI9 := hid hI9
                  clear hI9
                  go_wp2_with fail
                  go_meet
                  exact ⟨h, rfl, A9, k9, rfl, HI9.out⟩
                · have bM : (M == 0) = false := by simpa using hM0
                  have h1 := who_check (c := c) (by rw [HM.out]; exact hM0)
                  rw [HLQ.out, HLE.out, HM.out] at h1
                  obtain ⟨rfl, rfl⟩ := h1
                  go_wp2_with fail
                  go_meet
                  exact ⟨Ext.refl _, rfl, none, 0, rfl, Ints.nil _ _⟩
            case rest =>
              clear a0 a1 a2 a3 x0 x1 x2 x3 q0 q1 q2 q3
              obtain ⟨hx40, rfl, A9, k9, rfl, hI9⟩ := hcut
              obtain ⟨w40, hw40⟩ : ∃ w40, w40 = wc := ⟨_, rfl⟩
              subst hw40
              have h40 := h36.trans hx40
              have HI9 : Hid (∀ w', Ext w40 w' → Ints w' A9 LL) := fun w' h => hI9.ext h
              have X40 : Ext w40 w40 := Ext.refl _
              clear hI9 hx40
              obtain ⟨AE, hAE⟩ : ∃ e, askedC c [a, b] = e := ⟨_, rfl⟩
              have HAE := hid hAE
              clear hAE
              have K := refasked_any _ c a b w40 (HXX.out w40 h40) HSZ.out
              rw [HAE.out] at K
              have HK := hid K
              clear K
              obtain ⟨⟨a0, a1, a2, a3⟩, ⟨x0, x1, x2, x3⟩, q0, q1, q2, q3⟩ := FC.out w40 h40
              go_wp2_with fail
              clear a0 a1 a2 a3 x0 x1 x2 x3 q0 q1 q2 q3
              refine HK.out.mono ?_
              clear HK
              rintro e w41 ⟨rfl, h⟩
              have h41 := h40.trans h
              have X41 := X40.trans h
              clear h
              obtain ⟨⟨a0, a1, a2, a3⟩, ⟨x0, x1, x2, x3⟩, q0, q1, q2, q3⟩ := FC.out w41 h41
              go_upto_if 217 with fail
              go_cut [34, 17] (fun s34 s17 wx => Ext w41 wx ∧ s17 = .int .i64 NE ∧ ∃ A10 k10, s34 = .slice A10 NL.length k10 ∧ Ints wx A10 NL)
              case first =>
                as_aux_lemma =>
                  by_cases hA0 : AE = 0
                  · subst hA0
                    have K := refneeded_row _ c a b w41 (HXX.out w41 h41) HSZ.out HAE.out
                    unfold ListPost at K
                    rw [HNL.out, HNE.out] at K
                    have HK := hid K
                    clear K
                    go_wp2_with fail
                    clear a0 a1 a2 a3 x0 x1 x2 x3 q0 q1 q2 q3
                    refine HK.out.mono ?_
                    rintro e w42 ⟨A10, k10, rfl, hI10, h⟩
                    have HI10 := hid hI10
                    clear hI10
                    go_wp2_with fail
                    go_meet
                    exact ⟨h, rfl, A10, k10, rfl, HI10.out⟩
                  · have bA : (AE == 0) = false := by simpa using hA0
                    have h1 := who_err (c := c) (a := a) (b := b) (by rw [HAE.out]; exact hA0)
                    rw [HNL.out, HNE.out, HAE.out] at h1
                    obtain ⟨rfl, rfl⟩ := h1
                    go_wp2_with fail
                    go_meet
                    exact ⟨Ext.refl _, rfl, none, 0, rfl, Ints.nil _ _⟩
              case rest =>
                clear a0 a1 a2 a3 x0 x1 x2 x3 q0 q1 q2 q3
                obtain ⟨hx50, rfl, A10, k10, rfl, hI10⟩ := hcut
                obtain ⟨w50, hw50⟩ : ∃ w50, w50 = wc := ⟨_, rfl⟩
                subst hw50
                have h50 := h41.trans hx50
                have X50 := X41.trans hx50
                have HI10 : Hid (∀ w', Ext w50 w' → Ints w' A10 NL) := fun w' h => hI10.ext h
                have Y50 : Ext w50 w50 := Ext.refl _
                have m1 : (LE == LE) = true := by simp
                have m2 : (NE == NE) = true := by simp
                clear hI10 hx50
                have K := liars_row _ c w50 (HO.out w50 h50) HSZ.out
                unfold ListPost at K
                rw [HLQ.out, HLE.out] at K
                have HK := hid K
                clear K
                obtain ⟨⟨a0, a1, a2, a3⟩, ⟨x0, x1, x2, x3⟩, q0, q1, q2, q3⟩ := FC.out w50 h50
                go_wp2_with fail
                clear a0 a1 a2 a3 x0 x1 x2 x3 q0 q1 q2 q3
                refine HK.out.mono ?_
                clear HK
                rintro e w51 ⟨A51, k51, rfl, hI51, h⟩
                have h51 := h50.trans h
                have X51 := X50.trans h
                have Y51 := Y50.trans h
                clear h
                have HI51 : Hid (∀ w', Ext w51 w' → Ints w' A51 LL) := fun w' h => hI51.ext h
                have Z51 : Ext w51 w51 := Ext.refl _
                clear hI51
                have K := needed_row _ c a b w51 (HO.out w51 h51) HSZ.out
                unfold ListPost at K
                rw [HNL.out, HNE.out] at K
                have HK := hid K
                clear K
                obtain ⟨⟨a0, a1, a2, a3⟩, ⟨x0, x1, x2, x3⟩, q0, q1, q2, q3⟩ := FC.out w51 h51
                go_wp2_with fail
                clear a0 a1 a2 a3 x0 x1 x2 x3 q0 q1 q2 q3
                refine HK.out.mono ?_
                clear HK
                rintro e w52 ⟨A52, k52, rfl, hI52, h⟩
                have h52 := h51.trans h
                have X52 := X51.trans h
                have Y52 := Y51.trans h
                have Z52 := Z51.trans h
                clear h
                have HI52 : Hid (∀ w', Ext w52 w' → Ints w' A52 NL) := fun w' h => hI52.ext h
                have T52 : Ext w52 w52 := Ext.refl _
                clear hI52
                have K := eq_int A51 A9 k51 k9 LL LL w52 (HI51.out w52 Z52) (HI9.out w52 X52) HLLL.out HLLL.out
                rw [beq_self_eq_true] at K
                have HK := hid K
                clear K
                obtain ⟨⟨a0, a1, a2, a3⟩, ⟨x0, x1, x2, x3⟩, q0, q1, q2, q3⟩ := FC.out w52 h52
                go_wp2_with fail
                clear a0 a1 a2 a3 x0 x1 x2 x3 q0 q1 q2 q3
                refine HK.out.mono ?_
                clear HK
                rintro e w53 ⟨rfl, h⟩
                have h53 := h52.trans h
                have X53 := X52.trans h
                have Y53 := Y52.trans h
                have Z53 := Z52.trans h
                have T53 := T52.trans h
                clear h
                have K := eq_int A52 A10 k52 k10 NL NL w53 (HI52.out w53 T53) (HI10.out w53 Y53) HNLL.out HNLL.out
                rw [beq_self_eq_true] at K
                have HK := hid K
                clear K
                obtain ⟨⟨a0, a1, a2, a3⟩, ⟨x0, x1, x2, x3⟩, q0, q1, q2, q3⟩ := FC.out w53 h53
                go_wp2_with fail
                clear a0 a1 a2 a3 x0 x1 x2 x3 q0 q1 q2 q3
                refine HK.out.mono ?_
                clear HK
                rintro e w54 ⟨rfl, h⟩
                have h54 := h53.trans h
                have X54 := X53.trans h
                have Y54 := Y53.trans h
                have Z54 := Z53.trans h
                have T54 := T53.trans h
                clear h
                obtain ⟨⟨a0, a1, a2, a3⟩, ⟨x0, x1, x2, x3⟩, q0, q1, q2, q3⟩ := FC.out w54 h54
                go_wp2_with fail
                clear a0 a1 a2 a3 x0 x1 x2 x3 q0 q1 q2 q3
                refine (same_yes _ _ c w54 (HO.out w54 h54) (HV.out w54 h54) HSZ.out).mono ?_
                rintro e v1 ⟨rfl, h⟩
                have hh1 := h54.trans h
                clear h
                go_wp2_with fail
                refine (awake_any v1).mono ?_
                rintro e v2 ⟨rfl, h⟩
                go_wp2
                go_ret
                exact ⟨rfl, HXN.out.trans (hh1.trans h)⟩
end Go.Proofs.Ytgnjhaomlbkgcaa
