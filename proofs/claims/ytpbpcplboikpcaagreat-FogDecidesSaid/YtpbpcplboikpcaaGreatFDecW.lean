/- The walk of FogDecides: the law says true of every fog. Printed by my gen_fdecides.py. -/
import Derived.Test.YtpbpcplboikpcaaGreatG7
import Derived.Test.YtpbpcplboikpcaaGreatG6
import Derived.Test.YtpbpcplboikpcaaGreatG5
import Derived.Test.YtpbpcplboikpcaaGreatFDecP
import Derived.Test.YtpbpcplboikpcaaGreatGa
import Derived.Test.YtpbpcplboikpcaaGreatG9
import Derived.Test.YtpbpcplboikpcaaGreatFChW
import Derived.Laws.StructEq
import Derived.Deep.DeepCutAuto
import Derived.Deep.CutBlock
namespace Go.Proofs.YtpbpcplboikpcaaGreat
open Go Go.RowKit Go.Shelf
set_option linter.unusedVariables false
set_option linter.unusedSimpArgs false

set_option maxRecDepth 100000 in
set_option maxHeartbeats 16000000 in
theorem decidesw_any (v : Value) (f : Fg) (k m n : Int) (AC : Option Addr) (kC : Nat) (ch : List (Int × Int)) (w : World) (hf : FgR w v f) (hl : f.ct.length ≤ 9223372036854775807) (hCh : Prs w AC ch) (hcl : ch.length ≤ 9223372036854775807) :
    Calls Tryz.prog 5 #[v, .int .i64 k, .int .i64 m, .int .i64 n, .slice AC ch.length kC] w fun e w' => e = .returned (.bool true) ∧ Ext w w' := by
  obtain ⟨s, rfl, hr⟩ := hf.rows
  obtain ⟨W0, hW0⟩ : ∃ W0, w.alloc (.cells #[.int .i64 f.pl, .int .i64 f.mi, .slice s.a1 f.tr.length s.c1, .slice s.a2 f.bl.length s.c2, .slice s.a3 f.ct.length s.c3] 28) = W0 := ⟨_, rfl⟩
  have hx0 : Ext w W0 := by rw [← hW0]; exact Ext.alloc (Ext.refl w) _
  have FX : Hid (∀ w', Ext W0 w' → w'.cell? ⟨w.heap.size, 0, none⟩ = some (.int .i64 f.pl) ∧ w'.cell? ⟨w.heap.size, 1, none⟩ = some (.int .i64 f.mi) ∧ w'.cell? ⟨w.heap.size, 2, none⟩ = some (.slice s.a1 f.tr.length s.c1) ∧ w'.cell? ⟨w.heap.size, 3, none⟩ = some (.slice s.a2 f.bl.length s.c2) ∧ w'.cell? ⟨w.heap.size, 4, none⟩ = some (.slice s.a3 f.ct.length s.c3)) := fun w' h => ⟨h.cell (by rw [← hW0]; simp [go_sem]), h.cell (by rw [← hW0]; simp [go_sem]), h.cell (by rw [← hW0]; simp [go_sem]), h.cell (by rw [← hW0]; simp [go_sem]), h.cell (by rw [← hW0]; simp [go_sem])⟩
  obtain ⟨q0, q1, q2, q3, q4⟩ := FX.out W0 (Ext.refl _)
  have K1 := great_any (s.val f) f W0 (hf.ext hx0) hl
  obtain ⟨GR, hGR⟩ : ∃ GR, greatF f = GR := ⟨_, rfl⟩
  rw [hGR] at K1
  have HGR := hid hGR
  have HF0 := hid hf
  clear hf
  unfold Ads.val fval
  unfold Ads.val fval at K1
  have HCH0 := hid hCh
  clear hCh
  go_enter Tryz.func5, Tryz.ntmps5
  go_wp2_with fail
  try rw [hW0]
  clear hW0 q0 q1 q2 q3 q4
  refine K1.mono ?_
  clear K1
  rintro e w1 ⟨rfl, hb1⟩
  have hx1 := hx0.trans hb1
  clear hGR
  cases GR
  case true =>
    go_wp2_with fail
    refine (awake_any w1).mono ?_
    rintro e w2 ⟨rfl, hb2⟩
    go_wp2
    go_ret
    exact ⟨rfl, hx1.trans hb2⟩
  by_cases hc12 : (12 : Int) < (ch.length : Int)
  · go_wp2_with fail
    refine (awake_any w1).mono ?_
    rintro e w2 ⟨rfl, hb2⟩
    go_wp2
    go_ret
    exact ⟨rfl, hx1.trans hb2⟩
  have hch12 : ch.length ≤ 12 := by omega
  have HCP : Hid (∀ w', Ext w1 w' → Prs w' AC ch) := fun w' h => Rows.ext HCH0.out (hx1.trans h)
  have HS := hid (great_sized HGR.out)
  have HF : Hid (∀ w', Ext w1 w' → FgR w' (.agg #[.int .i64 f.pl, .int .i64 f.mi, .slice s.a1 f.tr.length s.c1, .slice s.a2 f.bl.length s.c2, .slice s.a3 f.ct.length s.c3]) f) := fun w' h => HF0.out.ext (hx1.trans h)
  clear HGR hl hr HF0
  go_wp2
  refine wp_region_shut_tail Ext (fun w' => Ext w1 w') (fun
    | 1 => some (fun v w' => OwnV w' f v)
    | 3 => some (fun v w' => TheirsV w' f v)
    | 6 => some (fun v w' => ∃ B, v = .pointer (some ⟨B, 0, none⟩) ∧ w1.heap.size ≤ B ∧ w'.heap[B]? = some (.cells #[.int .i64 0, .int .i64 0, .slice none 0 0, .slice none 0 0, .slice none 0 0] 28 (0, 0)))
    | 7 => some (fun v w' => ∃ B, v = .pointer (some ⟨B, 0, none⟩) ∧ w1.heap.size ≤ B ∧ w'.heap[B]? = some (.cells #[.int .i64 0, .int .i64 0, .slice none 0 0, .slice none 0 0, .slice none 0 0, .slice none 0 0] 37 (0, 0)))
    | 5 => some (fun v w' => ∃ g c', v = .slice (some ⟨g, 0, none⟩) ch.length c' ∧ ∃ B, w'.ownsRow B 68 2 (.slice (some ⟨g, 0, none⟩) ch.length c') ch.length (layPr.rows ch))
    | _ => none) 8 (by kernel_rfl) (by kernel_rfl) (fun _ _ h k => h.trans k) ?hT (Ext.drew (Ext.refl w1)) ?_
  case hT =>
    intro i R hR
    match i, hR with
    | 1, hR => cases hR; exact fun _ _ _ h k => h.ext k
    | 3, hR => cases hR; exact fun _ _ _ h k => h.ext k
    | 6, hR => cases hR; exact fun _ _ _ ⟨B, e, h1, h⟩ k => ⟨B, e, h1, (Below.block k B (Array.getElem?_eq_some_iff.1 h).1).trans h⟩
    | 7, hR => cases hR; exact fun _ _ _ ⟨B, e, h1, h⟩ k => ⟨B, e, h1, (Below.block k B (Array.getElem?_eq_some_iff.1 h).1).trans h⟩
    | 5, hR => cases hR; exact fun _ _ _ ⟨g, c', e, B, h⟩ k => ⟨g, c', e, B, own_below h k⟩
  refine wM_val ?ua0 rfl rfl Ext.refl (fun w' hD => ?ha0) (fun pha0 => ?na0)
  case ha0 =>
    obtain ⟨d0, d1, d2, d3, d4⟩ := FX.out _ (hb1.trans hD.1)
    go_simp; rfl
  simp only [Act.put, List.setIfInBounds_toArray, List.set_cons_succ, List.set_cons_zero, Nat.reduceAdd]
  refine wM_op _ rfl rfl (opens_call ?fa1 ?ga1 (fun w' hD => ?ha1) (fun w' hD => ?ca1)) (fun v1 hv1 => ?na1)
  case ha1 => go_simp; constructor <;> rfl
  case ca1 =>
    refine (own_any _ f w' (HF.out w' hD.1) HS.out).mono ?_
    rintro e w2 ⟨v, rfl, hb, ho⟩
    exact ⟨_, rfl, hb, own_cells ho⟩
  obtain ⟨_, -, -, g1, k1, g2, k2, D3, k3, rfl, -⟩ := hv1
  simp only [Act.put, List.setIfInBounds_toArray, List.set_cons_succ, List.set_cons_zero, Nat.reduceAdd]
  refine wM_val ?ua2 rfl rfl Ext.refl (fun w' hD => ?ha2) (fun pha2 => ?na2)
  case ha2 =>
    obtain ⟨d0, d1, d2, d3, d4⟩ := FX.out _ (hb1.trans hD.1)
    go_simp; rfl
  simp only [Act.put, List.setIfInBounds_toArray, List.set_cons_succ, List.set_cons_zero, Nat.reduceAdd]
  refine wM_op _ rfl rfl (opens_call ?fa3 ?ga3 (fun w' hD => ?ha3) (fun w' hD => ?ca3)) (fun v3 hv3 => ?na3)
  case ha3 => go_simp; constructor <;> rfl
  case ca3 =>
    refine (theirs_any _ f w' (HF.out w' hD.1) HS.out).mono ?_
    rintro e w2 ⟨v, d, rfl, hb, ho, hd⟩
    exact ⟨_, rfl, hb, theirs_cells ho hd⟩
  obtain ⟨_, -, -, a5, q5, b5, r5, c5, t5, A5, n5, k5, rfl, -⟩ := hv3
  simp only [Act.put, List.setIfInBounds_toArray, List.set_cons_succ, List.set_cons_zero, Nat.reduceAdd]
  refine wM_val ?ua4 rfl rfl Ext.refl (fun w' hD => ?ha4) (fun pha4 => ?na4)
  case ha4 =>
    obtain ⟨d0, d1, d2, d3, d4⟩ := FX.out _ (hb1.trans hD.1)
    go_simp; rfl
  simp only [Act.put, List.setIfInBounds_toArray, List.set_cons_succ, List.set_cons_zero, Nat.reduceAdd]
  refine wM_op _ rfl rfl (opens_call ?fa5 ?ga5 (fun w' hD => ?ha5) (fun w' hD => ?ca5)) (fun v5 hv5 => ?na5)
  case ha5 => go_simp; constructor <;> rfl
  case ca5 =>
    refine (dup_pair AC kC ch w' (HCP.out w' hD.1) (by omega)).mono ?_
    rintro e w2 ⟨g, c', rfl, ho, hb⟩
    exact ⟨_, rfl, hb, g, c', rfl, _, ho⟩
  obtain ⟨_, -, -, gd, kd, rfl, -⟩ := hv5
  simp only [Act.put, List.setIfInBounds_toArray, List.set_cons_succ, List.set_cons_zero, Nat.reduceAdd]
  refine wM_op _ rfl rfl (opens_val (fun w' hD => ?hm6)) (fun va6 hva6 => ?nm6)
  case hm6 =>
    refine ⟨.pointer (some ⟨w'.heap.size, 0, none⟩), w'.alloc (.cells #[.int .i64 0, .int .i64 0, .slice none 0 0, .slice none 0 0, .slice none 0 0] 28), ?_, Ext.alloc (Ext.refl _) _, w'.heap.size, rfl, hD.1.size, World.alloc_heap_new _ _⟩
    go_simp
  obtain ⟨_, -, -, Ba, rfl, -⟩ := hva6
  simp only [Act.put, List.setIfInBounds_toArray, List.set_cons_succ, List.set_cons_zero, Nat.reduceAdd]
  refine wM_op _ rfl rfl (opens_val (fun w' hD => ?hm7)) (fun va7 hva7 => ?nm7)
  case hm7 =>
    refine ⟨.pointer (some ⟨w'.heap.size, 0, none⟩), w'.alloc (.cells #[.int .i64 0, .int .i64 0, .slice none 0 0, .slice none 0 0, .slice none 0 0, .slice none 0 0] 37), ?_, Ext.alloc (Ext.refl _) _, w'.heap.size, rfl, hD.1.size, World.alloc_heap_new _ _⟩
    go_simp
  obtain ⟨_, -, -, Bb, rfl, -⟩ := hva7
  simp only [Act.put, List.setIfInBounds_toArray, List.set_cons_succ, List.set_cons_zero, Nat.reduceAdd]
  refine wM_nil ?_
  intro w9 hw9 hF9
  obtain ⟨-, g1', k1', g2', k2', D3', k3', e1, ho1⟩ := hF9 1
  cases e1
  obtain ⟨-, a5', q5', b5', r5', c5', t5', A5', n5', k5', e5, d, ho5, hd5⟩ := hF9 3
  cases e5
  obtain ⟨-, gd', kd', ed, Bd, hod⟩ := hF9 5
  cases ed
  obtain ⟨-, Ba', e6, hBa, GA⟩ := hF9 6
  cases e6
  obtain ⟨-, Bb', e7, hBb, GB⟩ := hF9 7
  cases e7
  clear hF9
  have hab : Ba ≠ Bb := fun e => by
    rw [e, GB] at GA
    injection GA with e1
    injection e1 with _ e2 _
    exact absurd e2 (by decide)
  have hba : Bb ≠ Ba := fun e => hab e.symm
  have hFB : FogB w9 (fun n => n = Ba ∨ n = Bb) := fun n hn => by
    rcases hn with e | e
    · exact ⟨_, _, by rw [e]; exact GA, by decide, by decide, by decide, by decide, by decide⟩
    · exact ⟨_, _, by rw [e]; exact GB, by decide, by decide, by decide, by decide, by decide⟩
  have hRB : RefB w9 (fun n => n = Ba ∨ n = Bb) := fun n hn => by
    rcases hn with e | e
    · exact ⟨_, _, by rw [e]; exact GA, by decide, by decide, by decide, by decide, by decide, by decide⟩
    · exact ⟨_, _, by rw [e]; exact GB, by decide, by decide, by decide, by decide, by decide, by decide⟩
  obtain ⟨Wn, hWn⟩ : ∃ Wn, (((((((((((w9.setCell ⟨Ba, 0, none⟩ (.int .i64 f.pl)).setCell ⟨Ba, 1, none⟩ (.int .i64 f.mi)).setCell ⟨Ba, 2, none⟩ (.slice (some ⟨g1, 0, none⟩) f.tr.length k1)).setCell ⟨Ba, 3, none⟩ (.slice (some ⟨g2, 0, none⟩) f.bl.length k2)).setCell ⟨Ba, 4, none⟩ (.slice D3 f.ct.length k3)).setCell ⟨Bb, 0, none⟩ (.int .i64 f.pl)).setCell ⟨Bb, 1, none⟩ (.int .i64 f.mi)).setCell ⟨Bb, 2, none⟩ (.slice a5 f.tr.length q5)).setCell ⟨Bb, 3, none⟩ (.slice b5 f.bl.length r5)).setCell ⟨Bb, 4, none⟩ (.slice c5 f.ct.length t5)).setCell ⟨Bb, 5, none⟩ (.slice A5 n5 k5)) = Wn := ⟨_, rfl⟩
  have hbn : BelS (fun n => n = Ba ∨ n = Bb) w9 Wn := by
    rw [← hWn]
    exact ((((((((((((BelS.refl _ w9).setCell (S := fun n => n = Ba ∨ n = Bb) ⟨Ba, 0, none⟩ _ (.inl rfl)).setCell (S := fun n => n = Ba ∨ n = Bb) ⟨Ba, 1, none⟩ _ (.inl rfl)).setCell (S := fun n => n = Ba ∨ n = Bb) ⟨Ba, 2, none⟩ _ (.inl rfl)).setCell (S := fun n => n = Ba ∨ n = Bb) ⟨Ba, 3, none⟩ _ (.inl rfl)).setCell (S := fun n => n = Ba ∨ n = Bb) ⟨Ba, 4, none⟩ _ (.inl rfl)).setCell (S := fun n => n = Ba ∨ n = Bb) ⟨Bb, 0, none⟩ _ (.inr rfl)).setCell (S := fun n => n = Ba ∨ n = Bb) ⟨Bb, 1, none⟩ _ (.inr rfl)).setCell (S := fun n => n = Ba ∨ n = Bb) ⟨Bb, 2, none⟩ _ (.inr rfl)).setCell (S := fun n => n = Ba ∨ n = Bb) ⟨Bb, 3, none⟩ _ (.inr rfl)).setCell (S := fun n => n = Ba ∨ n = Bb) ⟨Bb, 4, none⟩ _ (.inr rfl)).setCell (S := fun n => n = Ba ∨ n = Bb) ⟨Bb, 5, none⟩ _ (.inr rfl))
  have hx0n : Ext W0 Wn := by
    have h1 : W0.heap.size ≤ Ba := Nat.le_trans hb1.size hBa
    have h2 : W0.heap.size ≤ Bb := Nat.le_trans hb1.size hBb
    rw [← hWn]
    exact ((((((((((((hb1.trans hw9).setCell (by simpa using h1) _).setCell (by simpa using h1) _).setCell (by simpa using h1) _).setCell (by simpa using h1) _).setCell (by simpa using h1) _).setCell (by simpa using h2) _).setCell (by simpa using h2) _).setCell (by simpa using h2) _).setCell (by simpa using h2) _).setCell (by simpa using h2) _).setCell (by simpa using h2) _)
  have hx1n : Ext w1 Wn := by
    rw [← hWn]
    exact (((((((((((hw9.setCell (by simpa using hBa) _).setCell (by simpa using hBa) _).setCell (by simpa using hBa) _).setCell (by simpa using hBa) _).setCell (by simpa using hBa) _).setCell (by simpa using hBb) _).setCell (by simpa using hBb) _).setCell (by simpa using hBb) _).setCell (by simpa using hBb) _).setCell (by simpa using hBb) _).setCell (by simpa using hBb) _)
  have p0 := block_cell (i := 0) GA
  have f0 := blk_free (i := 0) GA
  have p1 := block_cell (i := 1) GA
  have f1 := blk_free (i := 1) GA
  have p2 := block_cell (i := 2) GA
  have f2 := blk_free (i := 2) GA
  have p3 := block_cell (i := 3) GA
  have f3 := blk_free (i := 3) GA
  have p4 := block_cell (i := 4) GA
  have f4 := blk_free (i := 4) GA
  have u0 := block_cell (i := 0) GB
  have v0 := blk_free (i := 0) GB
  have u1 := block_cell (i := 1) GB
  have v1 := blk_free (i := 1) GB
  have u2 := block_cell (i := 2) GB
  have v2 := blk_free (i := 2) GB
  have u3 := block_cell (i := 3) GB
  have v3 := blk_free (i := 3) GB
  have u4 := block_cell (i := 4) GB
  have v4 := blk_free (i := 4) GB
  have u5 := block_cell (i := 5) GB
  have v5 := blk_free (i := 5) GB
  simp only [List.getElem?_toArray, List.getElem?_cons_zero, List.getElem?_cons_succ] at p0 p1 p2 p3 p4 u0 u1 u2 u3 u4 u5
  have FN : Hid ((Wn.cell? ⟨Ba, 0, none⟩ = some (.int .i64 f.pl) ∧ Wn.cell? ⟨Ba, 1, none⟩ = some (.int .i64 f.mi) ∧ Wn.cell? ⟨Ba, 2, none⟩ = some (.slice (some ⟨g1, 0, none⟩) f.tr.length k1) ∧ Wn.cell? ⟨Ba, 3, none⟩ = some (.slice (some ⟨g2, 0, none⟩) f.bl.length k2) ∧ Wn.cell? ⟨Ba, 4, none⟩ = some (.slice D3 f.ct.length k3)) ∧ Wn.cell? ⟨Bb, 0, none⟩ = some (.int .i64 f.pl) ∧ Wn.cell? ⟨Bb, 1, none⟩ = some (.int .i64 f.mi) ∧ Wn.cell? ⟨Bb, 2, none⟩ = some (.slice a5 f.tr.length q5) ∧ Wn.cell? ⟨Bb, 3, none⟩ = some (.slice b5 f.bl.length r5) ∧ Wn.cell? ⟨Bb, 4, none⟩ = some (.slice c5 f.ct.length t5) ∧ Wn.cell? ⟨Bb, 5, none⟩ = some (.slice A5 n5 k5)) := by
    unfold Hid
    rw [← hWn]
    have hab' := hab
    have hba' := hba
    simp [go_sem, p0, p1, p2, p3, p4, u0, u1, u2, u3, u4, u5, hab', hba']
  have HOF : Hid (OwnF Wn (.agg #[.int .i64 f.pl, .int .i64 f.mi, .slice (some ⟨g1, 0, none⟩) f.tr.length k1, .slice (some ⟨g2, 0, none⟩) f.bl.length k2, .slice D3 f.ct.length k3]) f) := ho1.keep hbn hFB
  have HTF : Hid (TheirsF Wn (.agg #[.int .i64 f.pl, .int .i64 f.mi, .slice a5 f.tr.length q5, .slice b5 f.bl.length r5, .slice c5 f.ct.length t5, .slice A5 n5 k5]) f d) := ho5.keep hbn hRB
  have HMI : Hid (Prs Wn (some ⟨gd, 0, none⟩) ch) := Rd.of_own (hbn.own hod (fun g hg hs => by obtain ⟨cs, T, hh, n1, -⟩ := hFB g hs; exact own_ne hod hh n1 hg))
  clear hod
  have HD5 := hid hd5
  clear ho1 ho5 hbn hFB hRB GA GB hd5
  obtain ⟨⟨a0, a1, a2, a3, a4⟩, x0, x1, x2, x3, x4, x5⟩ := FN.out
  have FC : Hid (∀ w', Ext Wn w' → (w'.cell? ⟨Ba, 0, none⟩ = some (.int .i64 f.pl) ∧ w'.cell? ⟨Ba, 1, none⟩ = some (.int .i64 f.mi) ∧ w'.cell? ⟨Ba, 2, none⟩ = some (.slice (some ⟨g1, 0, none⟩) f.tr.length k1) ∧ w'.cell? ⟨Ba, 3, none⟩ = some (.slice (some ⟨g2, 0, none⟩) f.bl.length k2) ∧ w'.cell? ⟨Ba, 4, none⟩ = some (.slice D3 f.ct.length k3)) ∧ (w'.cell? ⟨Bb, 0, none⟩ = some (.int .i64 f.pl) ∧ w'.cell? ⟨Bb, 1, none⟩ = some (.int .i64 f.mi) ∧ w'.cell? ⟨Bb, 2, none⟩ = some (.slice a5 f.tr.length q5) ∧ w'.cell? ⟨Bb, 3, none⟩ = some (.slice b5 f.bl.length r5) ∧ w'.cell? ⟨Bb, 4, none⟩ = some (.slice c5 f.ct.length t5) ∧ w'.cell? ⟨Bb, 5, none⟩ = some (.slice A5 n5 k5)) ∧ w'.cell? ⟨w.heap.size, 0, none⟩ = some (.int .i64 f.pl) ∧ w'.cell? ⟨w.heap.size, 1, none⟩ = some (.int .i64 f.mi) ∧ w'.cell? ⟨w.heap.size, 2, none⟩ = some (.slice s.a1 f.tr.length s.c1) ∧ w'.cell? ⟨w.heap.size, 3, none⟩ = some (.slice s.a2 f.bl.length s.c2) ∧ w'.cell? ⟨w.heap.size, 4, none⟩ = some (.slice s.a3 f.ct.length s.c3)) := fun w' h => ⟨⟨h.cell a0, h.cell a1, h.cell a2, h.cell a3, h.cell a4⟩, ⟨h.cell x0, h.cell x1, h.cell x2, h.cell x3, h.cell x4, h.cell x5⟩, FX.out w' (hx0n.trans h)⟩
  obtain ⟨-, -, q0, q1, q2, q3, q4⟩ := FC.out Wn (Ext.refl _)
  have HO : Hid (∀ w', Ext Wn w' → FgR w' (.agg #[.int .i64 f.pl, .int .i64 f.mi, .slice (some ⟨g1, 0, none⟩) f.tr.length k1, .slice (some ⟨g2, 0, none⟩) f.bl.length k2, .slice D3 f.ct.length k3]) f) := fun w' h => HOF.out.fg.ext h
  have HX : Hid (∀ w', Ext Wn w' → RgR w' (.agg #[.int .i64 f.pl, .int .i64 f.mi, .slice a5 f.tr.length q5, .slice b5 f.bl.length r5, .slice c5 f.ct.length t5, .slice A5 n5 k5]) f d) := fun w' h => HTF.out.rg.ext h
  have HV : Hid (∀ w', Ext Wn w' → FgR w' (.agg #[.int .i64 f.pl, .int .i64 f.mi, .slice s.a1 f.tr.length s.c1, .slice s.a2 f.bl.length s.c2, .slice s.a3 f.ct.length s.c3]) f) := fun w' h => HF.out w' (hx1n.trans h)
  have HXN : Hid (Ext w Wn) := hx1.trans hx1n
  have HMM : Hid (∀ w', Ext Wn w' → Prs w' (some ⟨gd, 0, none⟩) ch) := fun w' h => Rows.ext HMI.out h
  have HCV : Hid (∀ w', Ext Wn w' → Prs w' AC ch) := fun w' h => HCP.out w' (hx1n.trans h)
  have h0 : Ext Wn Wn := Ext.refl _
  clear FX HF HOF HTF FN hx0n hx1n hx1 hx0 hb1 hBa hBb hw9 HMI HCP
  simp only [List.drop_succ_cons, List.drop_zero]
  obtain ⟨T, hT⟩ : ∃ T, checkF f = T := ⟨_, rfl⟩
  have HT := hid hT
  have K := refcheck_any _ f d Wn (HX.out Wn h0) HS.out
  rw [hT] at K
  have HK := hid K
  clear K hT
  go_wp2_with fail
  try rw [hWn]
  clear hWn hab hba p0 p1 p2 p3 p4 u0 u1 u2 u3 u4 u5 f0 f1 f2 f3 f4 v0 v1 v2 v3 v4 v5
  clear a0 a1 a2 a3 a4 x0 x1 x2 x3 x4 x5 q0 q1 q2 q3 q4
  refine HK.out.mono ?_
  clear HK
  rintro e w10 ⟨rfl, h⟩
  have h10 : Ext Wn w10 := h
  clear h h0
  obtain ⟨E1, hE1⟩ : ∃ E1, cartE f k = E1 := ⟨_, rfl⟩
  have H_E1 := hid hE1
  clear hE1
  obtain ⟨M, hM⟩ : ∃ M, mcE f k m = M := ⟨_, rfl⟩
  have H_M := hid hM
  clear hM
  obtain ⟨ae, hae⟩ : ∃ ae, apartE f k m ch = ae := ⟨_, rfl⟩
  have H_ae := hid hae
  clear hae
  obtain ⟨be, hbe⟩ : ∃ be, placedE f k m n = be := ⟨_, rfl⟩
  have H_be := hid hbe
  clear hbe
  obtain ⟨PL, hPL⟩ : ∃ PL, plsL f k m = PL := ⟨_, rfl⟩
  have H_PL := hid hPL
  clear hPL
  obtain ⟨AL, hAL⟩ : ∃ AL, apartL f k m ch = AL := ⟨_, rfl⟩
  have H_AL := hid hAL
  clear hAL
  obtain ⟨TL, hTL⟩ : ∃ TL, twinsV f k m n = TL := ⟨_, rfl⟩
  have H_TL := hid hTL
  clear hTL
  obtain ⟨ce, hce⟩ : ∃ ce, decideE f k m n = ce := ⟨_, rfl⟩
  have H_ce := hid hce
  clear hce
  obtain ⟨DL, hDL⟩ : ∃ DL, decideL f k m n = DL := ⟨_, rfl⟩
  have H_DL := hid hDL
  clear hDL
  obtain ⟨AV, hAV⟩ : ∃ AV, askV f k m n = AV := ⟨_, rfl⟩
  have H_AV := hid hAV
  clear hAV
  obtain ⟨⟨a0, a1, a2, a3, a4⟩, ⟨x0, x1, x2, x3, x4, x5⟩, q0, q1, q2, q3, q4⟩ := FC.out w10 h10
  go_upto_if 55 with fail
  go_cut [14] (fun s14 wx => s14 = .int .i64 E1 ∧ Ext Wn wx)
  case first =>
    by_cases hT0 : T = 0
    case neg =>
      have bT : (T == 0) = false := by simpa using hT0
      have HE : Hid (E1 = T) := by unfold Hid; rw [← H_E1.out]; exact cartE_bad HT.out hT0
      go_wp2_with fail
      go_meet
      exact ⟨by rw [HE.out], h10⟩
    subst hT0
    clear a0 a1 a2 a3 a4 x0 x1 x2 x3 x4 x5 q0 q1 q2 q3 q4
    have K := refcart_any _ f d k w10 (HX.out w10 h10) HS.out
    rw [← cartE_in HT.out, H_E1.out] at K
    have HK := hid K
    clear K
    obtain ⟨⟨a0, a1, a2, a3, a4⟩, ⟨x0, x1, x2, x3, x4, x5⟩, q0, q1, q2, q3, q4⟩ := FC.out w10 h10
    go_wp2_with fail
    clear a0 a1 a2 a3 a4 x0 x1 x2 x3 x4 x5 q0 q1 q2 q3 q4
    refine (HK.out).mono ?_
    clear HK
    rintro e w12 ⟨rfl, h⟩
    have h12 := h10.trans h
    clear h
    go_wp2_with fail
    go_meet
    exact ⟨rfl, h12⟩
  case rest =>
    clear a0 a1 a2 a3 a4 x0 x1 x2 x3 x4 x5 q0 q1 q2 q3 q4
    obtain ⟨rfl, h20⟩ := hcut
    obtain ⟨w20, hw20⟩ : ∃ w20, w20 = wc := ⟨_, rfl⟩
    subst hw20
    obtain ⟨⟨a0, a1, a2, a3, a4⟩, ⟨x0, x1, x2, x3, x4, x5⟩, q0, q1, q2, q3, q4⟩ := FC.out w20 h20
    go_upto_if 60 with fail
    go_cut [14] (fun s14 wx => s14 = .int .i64 M ∧ Ext Wn wx)
    case first =>
      by_cases hE0 : E1 = 0
      case neg =>
        have bE : (E1 == 0) = false := by simpa using hE0
        have HE : Hid (M = E1) := by unfold Hid; rw [← H_M.out]; exact mcE_bad H_E1.out hE0
        go_wp2_with fail
        go_meet
        exact ⟨by rw [HE.out], h20⟩
      subst hE0
      clear a0 a1 a2 a3 a4 x0 x1 x2 x3 x4 x5 q0 q1 q2 q3 q4
      have K := refmin_any _ f d m w20 (HX.out w20 h20) HS.out
      rw [← mcE_in H_E1.out, H_M.out] at K
      have HK := hid K
      clear K
      obtain ⟨⟨a0, a1, a2, a3, a4⟩, ⟨x0, x1, x2, x3, x4, x5⟩, q0, q1, q2, q3, q4⟩ := FC.out w20 h20
      go_wp2_with fail
      clear a0 a1 a2 a3 a4 x0 x1 x2 x3 x4 x5 q0 q1 q2 q3 q4
      refine (HK.out).mono ?_
      clear HK
      rintro e w22 ⟨rfl, h⟩
      have h22 := h20.trans h
      clear h
      go_wp2_with fail
      go_meet
      exact ⟨rfl, h22⟩
    case rest =>
      clear a0 a1 a2 a3 a4 x0 x1 x2 x3 x4 x5 q0 q1 q2 q3 q4
      obtain ⟨rfl, h30⟩ := hcut
      obtain ⟨w30, hw30⟩ : ∃ w30, w30 = wc := ⟨_, rfl⟩
      subst hw30
      obtain ⟨⟨a0, a1, a2, a3, a4⟩, ⟨x0, x1, x2, x3, x4, x5⟩, q0, q1, q2, q3, q4⟩ := FC.out w30 h30
      go_upto_if 67 with fail
      go_cut [15, 16, 17] (fun s15 s16 s17 wx => s15 = .int .i64 ae ∧ s16 = .int .i64 be ∧ (∃ A c, s17 = .slice A PL.length c ∧ Ints wx A PL) ∧ Ext Wn wx)
      case first =>
        as_aux_lemma =>
          by_cases hM0 : M = 0
          case neg =>
            have bM : (M == 0) = false := by simpa using hM0
            have HE : Hid (ae = M ∧ be = M ∧ PL = []) := by
              unfold Hid
              rw [← H_ae.out, ← H_be.out, ← H_PL.out]
              exact ⟨mc_apart H_M.out hM0, mc_placed H_M.out hM0, by unfold plsL; rw [H_M.out, if_neg (fun h => hM0 h.1)]⟩
            go_wp2_with fail
            go_meet
            exact ⟨by rw [HE.out.1], by rw [HE.out.2.1], ⟨none, 0, by rw [HE.out.2.2]; rfl, by rw [HE.out.2.2]; exact Ints.nil _ _⟩, h30⟩
          subst hM0
          obtain ⟨hce, hmi⟩ := mcE_ok H_M.out
          obtain ⟨hc0, hk0, hk1⟩ := cartE_ok hce
          have HOK := hid (checkF_ok hc0)
          have hdd := HD5.out hc0
          subst hdd
          have HX2 := HX
          obtain ⟨kn, rfl⟩ : ∃ kn : Nat, k = kn := ⟨k.toNat, by omega⟩
          have hmb := inB_iff.1 hmi
          obtain ⟨mn, rfl⟩ : ∃ mn : Nat, m = mn := ⟨m.toNat, by omega⟩
          obtain ⟨c, hcg⟩ := get_of_lt f.ct kn (by omega)
          have HCG := hid hcg
          have h8 := HOK.out.rn c (mem_of_get hcg)
          have HCA : Hid (ctAt f (kn : Int) = c) := by unfold Hid ctAt; rw [Int.toNat_natCast, List.getD_eq_getElem?_getD, hcg]; rfl
          obtain ⟨Mi, hMi⟩ : ∃ Mi : Nat, f.mi.toNat = Mi := ⟨_, rfl⟩
          have HMI := hid hMi
          have hmn : mn ≤ Mi := by omega
          have hmn' : (mn : Int) < (Mi : Int) + 1 := by omega
          obtain ⟨LX, hLX⟩ : ∃ LX, loudX n = LX := ⟨_, rfl⟩
          have HLX := hid hLX
          obtain ⟨LO, hLO⟩ : ∃ LO, lostF (farM f) f c = LO := ⟨_, rfl⟩
          have HLO := hid hLO
          clear hcg hce hmi hmb hLX hLO hc0 hk0 hk1 hMi
          clear a0 a1 a2 a3 a4 x0 x1 x2 x3 x4 x5 q0 q1 q2 q3 q4
          have K := refloud_any n w30
          rw [HLX.out] at K
          have HK := hid K
          clear K
          obtain ⟨⟨a0, a1, a2, a3, a4⟩, ⟨x0, x1, x2, x3, x4, x5⟩, q0, q1, q2, q3, q4⟩ := FC.out w30 h30
          go_wp2_with fail
          clear a0 a1 a2 a3 a4 x0 x1 x2 x3 x4 x5 q0 q1 q2 q3 q4
          refine (HK.out).mono ?_
          clear HK
          rintro e w31 ⟨rfl, h⟩
          have h31 := h30.trans h
          clear h
          go_wp2
          go_loopw [72, 15] (fun i72 i15 wr => ∃ (j : Nat) (A1 : Int), j ≤ ch.length ∧ i72 = .int .i64 (j : Int) ∧ i15 = .int .i64 A1 ∧ Hid (A1 = if (ch.take j).all (fun c => plOK f c.1) then 0 else 1) ∧ Ext Wn wr) (fun i _ _ => ch.length - (intOf i).toNat)
          case atStart => exact ⟨0, 0, Nat.zero_le _, rfl, rfl, rfl, h31⟩
          case round =>
            obtain ⟨j, A1, hj, rfl, rfl, HA1, hxr⟩ := hrel
            by_cases hlj : j < ch.length
            · have hlj' : (j : Int) < (ch.length : Int) := by omega
              obtain ⟨x, hxj⟩ := get_of_lt ch j hlj
              obtain ⟨b5, o5, e5, g5, g6⟩ := Prs.at_ (HCV.out wr hxr) hxj
              obtain ⟨⟨a0, a1, a2, a3, a4⟩, ⟨x0, x1, x2, x3, x4, x5⟩, q0, q1, q2, q3, q4⟩ := FC.out wr hxr
              have q0a := fun o => (Ext.alloc (Ext.refl wr) o).cell q0
              have HNX := hid (all_next (p := fun c => plOK f c.1) hxj)
              clear hxj
              subst e5
              by_cases c1 : x.1 < 0
              · have HA2 : Hid ((1 : Int) = if (ch.take (j + 1)).all (fun c => plOK f c.1) then 0 else 1) := by
                  unfold Hid; rw [HNX.out, show plOK f x.1 = false from by rw [Bool.eq_false_iff, ne_eq, plOK_iff]; omega]; simp
                clear HA1 HNX
                go_wp2
                go_roundw
                case rel => exact ⟨j + 1, 1, by omega, by go_num, rfl, HA2, hxr.alloc _⟩
                case measure => simp [intOf]; omega
              by_cases c2 : f.pl ≤ x.1
              · have HA2 : Hid ((1 : Int) = if (ch.take (j + 1)).all (fun c => plOK f c.1) then 0 else 1) := by
                  unfold Hid; rw [HNX.out, show plOK f x.1 = false from by rw [Bool.eq_false_iff, ne_eq, plOK_iff]; omega]; simp
                clear HA1 HNX
                go_wp2
                go_roundw
                case rel => exact ⟨j + 1, 1, by omega, by go_num, rfl, HA2, hxr.alloc _⟩
                case measure => simp [intOf]; omega
              have HA2 : Hid (A1 = if (ch.take (j + 1)).all (fun c => plOK f c.1) then 0 else 1) := by
                unfold Hid; rw [HNX.out, show plOK f x.1 = true from by rw [plOK_iff]; omega, Bool.and_true]; exact HA1.out
              clear HA1 HNX
              go_wp2
              go_roundw
              case rel => exact ⟨j + 1, A1, by omega, by go_num, rfl, HA2, hxr.alloc _⟩
              case measure => simp [intOf]; omega
            · have hlj' : ¬ (j : Int) < (ch.length : Int) := by omega
              obtain ⟨F1, hF1⟩ : ∃ F1, (ch.all fun c => plOK f c.1) = F1 := ⟨_, rfl⟩
              have HF1 := hid hF1
              have HA1E : Hid (A1 = if F1 then 0 else 1) := by
                have h := HA1.out
                rw [List.take_of_length_le (by omega), hF1] at h
                exact h
              clear HA1 hF1
              go_wp2
              go_loopw [90, 15] (fun i90 i15 wr => ∃ (j : Nat) (A2 : Int), j ≤ ch.length ∧ i90 = .int .i64 (j : Int) ∧ i15 = .int .i64 A2 ∧ Hid (A2 = if F1 then (if (ch.take j).all (fun c => inB c.2 0 7) then 0 else 3) else 1) ∧ Ext Wn wr) (fun i _ _ => ch.length - (intOf i).toNat)
              case atStart => exact ⟨0, A1, Nat.zero_le _, rfl, rfl, HA1E, hxr⟩
              case round =>
                obtain ⟨j, A2, hj, rfl, rfl, HA2, hxr⟩ := hrel
                by_cases hlj : j < ch.length
                · have hlj' : (j : Int) < (ch.length : Int) := by omega
                  obtain ⟨x, hxj⟩ := get_of_lt ch j hlj
                  obtain ⟨b5, o5, e5, g5, g6⟩ := Prs.at_ (HCV.out wr hxr) hxj
                  obtain ⟨⟨a0, a1, a2, a3, a4⟩, ⟨x0, x1, x2, x3, x4, x5⟩, q0, q1, q2, q3, q4⟩ := FC.out wr hxr
                  have HNX := hid (all_next (p := fun c => inB c.2 0 7) hxj)
                  clear hxj
                  subst e5
                  by_cases hz : A2 = 0
                  · have bz : (A2 == 0) = true := by simp [hz]
                    have HF : Hid (F1 = true ∧ (ch.take j).all (fun c => inB c.2 0 7) = true) := by
                      have h := HA2.out
                      rw [hz] at h
                      unfold Hid
                      cases F1
                      · simp at h
                      · cases hq : (ch.take j).all (fun c => inB c.2 0 7)
                        · rw [hq] at h; simp at h
                        · exact ⟨rfl, rfl⟩
                    have HA3 : Hid (loudX x.2 = if F1 then (if (ch.take (j + 1)).all (fun c => inB c.2 0 7) then 0 else 3) else 1) := by
                      unfold Hid loudX
                      rw [HNX.out, HF.out.1, HF.out.2]
                      simp
                    clear HA2 HNX hz
                    go_wp2_with fail
                    refine (refloud_any x.2 _).mono ?_
                    rintro e w5 ⟨rfl, hb5⟩
                    have hx5 := (hxr.alloc _).trans hb5
                    clear a0 a1 a2 a3 a4 x0 x1 x2 x3 x4 x5 q0 q1 q2 q3 q4
                    go_wp2
                    go_roundw
                    case rel => exact ⟨j + 1, _, by omega, by go_num, rfl, HA3, hx5⟩
                    case measure => simp [intOf]; omega
                  · have bz : (A2 == 0) = false := by simpa using hz
                    have HA3 : Hid (A2 = if F1 then (if (ch.take (j + 1)).all (fun c => inB c.2 0 7) then 0 else 3) else 1) := by
                      have h := HA2.out
                      unfold Hid
                      rw [HNX.out]
                      cases F1
                      · exact h
                      · cases hq : (ch.take j).all (fun c => inB c.2 0 7)
                        · rw [hq] at h; simpa using h
                        · rw [hq] at h; exact absurd h (by simpa using hz)
                    clear HA2 HNX hz
                    go_wp2
                    go_roundw
                    case rel => exact ⟨j + 1, A2, by omega, by go_num, rfl, HA3, hxr.alloc _⟩
                    case measure => simp [intOf]; omega
                · have hlj' : ¬ (j : Int) < (ch.length : Int) := by omega
                  obtain ⟨F2, hF2⟩ : ∃ F2, (ch.all fun c => inB c.2 0 7) = F2 := ⟨_, rfl⟩
                  have HAE : Hid (ae = if A2 = 0 then (if LO then 7 else 0) else A2) := by
                    have h := HA2.out
                    rw [List.take_of_length_le (by omega), hF2] at h
                    unfold Hid
                    rw [← H_ae.out, mc_apart0 H_M.out, HF1.out, hF2, HCA.out, HLO.out, h]
                    cases F1 <;> cases F2 <;> simp
                  have HBE : Hid (be = if LX = 0 then (if LO then 7 else 0) else LX) := by
                    unfold Hid
                    rw [← H_be.out, mc_placed0 H_M.out, HCA.out, HLO.out, ← HLX.out]
                    unfold loudX
                    cases inB n 0 7 <;> simp
                  have HPLE : Hid (PL = if LO then [] else natI (canN (farM f) f c mn)) := by
                    unfold Hid
                    rw [← H_PL.out]
                    unfold plsL
                    rw [HCA.out, HLO.out, H_M.out, Int.toNat_natCast]
                    cases LO <;> simp
                  obtain ⟨CN, hCN⟩ : ∃ CN, countM (farM f) f c (selS (everyN c)) = CN := ⟨_, rfl⟩
                  have HCN := hid hCN
                  have HLC : Hid (LO = (CN == 0)) := by
                    unfold Hid
                    rw [← HLO.out, ← hCN, count_all]
                    unfold lostF
                    rw [Bool.eq_iff_iff]; simp
                  clear HA2 hF2 hCN
                  cases LO
                  · have bz : (CN == 0) = false := HLC.out.symm
                    go_wp2
                    refine wp_region_shut Ext (fun w' => Ext wr w') (fun
                      | 4 => some (fun v w' => v = .int .i64 (everyN c : Nat))
                      | 5 => some (fun v w' => v = .int .i64 CN)
                      | _ => none) (by kernel_rfl) (by kernel_rfl) (fun _ _ h k => h.trans k) ?hTl (Ext.drew (Ext.refl wr)) ?_
                    case hTl =>
                      intro i R hR
                      match i, hR with
                      | 4, hR => cases hR; exact fun _ _ _ h _ => h
                      | 5, hR => cases hR; exact fun _ _ _ h _ => h
                    refine wM_val ?ucn0 rfl rfl Ext.refl (fun w' hD => ?hcn0) (fun phcn0 => ?ncn0)
                    case hcn0 =>
                      obtain ⟨⟨a0, a1, a2, a3, a4⟩, ⟨x0, x1, x2, x3, x4, x5⟩, q0, q1, q2, q3, q4⟩ := FC.out w' (hxr.trans hD.1)
                      go_simp; rfl
                    simp only [Act.put, List.setIfInBounds_toArray, List.set_cons_succ, List.set_cons_zero, Nat.reduceAdd]
                    refine wM_val ?ucn1 rfl rfl Ext.refl (fun w' hD => ?hcn1) (fun phcn1 => ?ncn1)
                    case hcn1 =>
                      obtain ⟨⟨a0, a1, a2, a3, a4⟩, ⟨x0, x1, x2, x3, x4, x5⟩, q0, q1, q2, q3, q4⟩ := FC.out w' (hxr.trans hD.1)
                      go_simp; rfl
                    simp only [Act.put, List.setIfInBounds_toArray, List.set_cons_succ, List.set_cons_zero, Nat.reduceAdd]
                    refine wM_val ?ucn2 rfl rfl Ext.refl (fun w' hD => ?hcn2) (fun phcn2 => ?ncn2)
                    case hcn2 =>
                      obtain ⟨⟨a0, a1, a2, a3, a4⟩, ⟨x0, x1, x2, x3, x4, x5⟩, q0, q1, q2, q3, q4⟩ := FC.out w' (hxr.trans hD.1)
                      go_simp; rfl
                    simp only [Act.put, List.setIfInBounds_toArray, List.set_cons_succ, List.set_cons_zero, Nat.reduceAdd]
                    refine wM_val ?ucn3 rfl rfl Ext.refl (fun w' hD => ?hcn3) (fun phcn3 => ?ncn3)
                    case hcn3 =>
                      obtain ⟨⟨a0, a1, a2, a3, a4⟩, ⟨x0, x1, x2, x3, x4, x5⟩, q0, q1, q2, q3, q4⟩ := FC.out w' (hxr.trans hD.1)
                      go_simp; rfl
                    simp only [Act.put, List.setIfInBounds_toArray, List.set_cons_succ, List.set_cons_zero, Nat.reduceAdd]
                    refine wM_op _ rfl rfl (opens_call ?fcn4 ?gcn4 (fun w' hD => ?hcn4) (fun w' hD => ?ccn4)) (fun v4 hv4 => ?ncn4)
                    case hcn4 => go_simp; constructor <;> rfl
                    case ccn4 =>
                      refine (refevery_any _ f (distL f) kn c w' (HX2.out w' (hxr.trans hD.1)) HCG.out h8).mono ?_
                      rintro e w2 ⟨rfl, hb⟩
                      exact ⟨_, rfl, hb, rfl⟩
                    obtain ⟨_, -, -, rfl⟩ := hv4
                    simp only [Act.put, List.setIfInBounds_toArray, List.set_cons_succ, List.set_cons_zero, Nat.reduceAdd]
                    refine wM_op _ rfl rfl (opens_call ?fcn5 ?gcn5 (fun w' hD => ?hcn5) (fun w' hD => ?ccn5)) (fun v5 hv5 => ?ncn5)
                    case hcn5 => go_simp; constructor <;> rfl
                    case ccn5 =>
                      refine (refcount_any _ f kn c (everyN c) w' (HX2.out w' (hxr.trans hD.1)) HS.out HOK.out HCG.out (every_lt h8)).mono ?_
                      rintro e w2 ⟨rfl, hb⟩
                      exact ⟨_, rfl, hb, by rw [HCN.out]⟩
                    obtain ⟨_, -, -, rfl⟩ := hv5
                    simp only [Act.put, List.setIfInBounds_toArray, List.set_cons_succ, List.set_cons_zero, Nat.reduceAdd]
                    refine wM_val ?ucn6 rfl rfl Ext.refl (fun w' hD => ?hcn6) (fun phcn6 => ?ncn6)
                    case hcn6 =>
                      obtain ⟨⟨a0, a1, a2, a3, a4⟩, ⟨x0, x1, x2, x3, x4, x5⟩, q0, q1, q2, q3, q4⟩ := FC.out w' (hxr.trans hD.1)
                      go_simp; rfl
                    simp only [Act.put, List.setIfInBounds_toArray, List.set_cons_succ, List.set_cons_zero, Nat.reduceAdd]
                    refine wM_nil ?_
                    intro w9 hw9 hF9
                    clear hF9
                    have h50 := hxr.trans hw9
                    obtain ⟨⟨a0, a1, a2, a3, a4⟩, ⟨x0, x1, x2, x3, x4, x5⟩, q0, q1, q2, q3, q4⟩ := FC.out w9 h50
                    go_wp2_with fail
                    clear a0 a1 a2 a3 a4 x0 x1 x2 x3 x4 x5 q0 q1 q2 q3 q4
                    refine (refcan_any _ f kn c w9 (HX2.out w9 h50) HS.out HOK.out HCG.out).mono ?_
                    rintro e w51 ⟨A9, k9, rfl, hb, hI9, hk9⟩
                    have h51 := h50.trans hb
                    obtain ⟨rb, ro, A7, k7, eA9, q0, hI7, hk7⟩ := hI9.at_ (canL_get (show mn ≤ f.mi.toNat by rw [HMI.out]; exact hmn))
                    cases eA9
                    rw [HMI.out] at hk9 ⊢
                    have HPLE2 : Hid (PL = natI (canN (farM f) f c mn)) := HPLE.out
                    rw [← HPLE2.out] at q0 hI7
                    have HI7 := hid hI7
                    clear hb hI9 hI7 hk7
                    go_wp2
                    go_meet
                    exact ⟨by rw [HAE.out]; split <;> simp_all, by rw [HBE.out]; split <;> simp_all, ⟨A7, k7, rfl, HI7.out⟩, h51⟩
                  · have bz : (CN == 0) = true := HLC.out.symm
                    have HPLN : Hid (PL = []) := HPLE.out
                    go_wp2
                    refine wp_region_shut Ext (fun w' => Ext wr w') (fun
                      | 4 => some (fun v w' => v = .int .i64 (everyN c : Nat))
                      | 5 => some (fun v w' => v = .int .i64 CN)
                      | _ => none) (by kernel_rfl) (by kernel_rfl) (fun _ _ h k => h.trans k) ?hTm (Ext.drew (Ext.refl wr)) ?_
                    case hTm =>
                      intro i R hR
                      match i, hR with
                      | 4, hR => cases hR; exact fun _ _ _ h _ => h
                      | 5, hR => cases hR; exact fun _ _ _ h _ => h
                    refine wM_val ?ucm0 rfl rfl Ext.refl (fun w' hD => ?hcm0) (fun phcm0 => ?ncm0)
                    case hcm0 =>
                      obtain ⟨⟨a0, a1, a2, a3, a4⟩, ⟨x0, x1, x2, x3, x4, x5⟩, q0, q1, q2, q3, q4⟩ := FC.out w' (hxr.trans hD.1)
                      go_simp; rfl
                    simp only [Act.put, List.setIfInBounds_toArray, List.set_cons_succ, List.set_cons_zero, Nat.reduceAdd]
                    refine wM_val ?ucm1 rfl rfl Ext.refl (fun w' hD => ?hcm1) (fun phcm1 => ?ncm1)
                    case hcm1 =>
                      obtain ⟨⟨a0, a1, a2, a3, a4⟩, ⟨x0, x1, x2, x3, x4, x5⟩, q0, q1, q2, q3, q4⟩ := FC.out w' (hxr.trans hD.1)
                      go_simp; rfl
                    simp only [Act.put, List.setIfInBounds_toArray, List.set_cons_succ, List.set_cons_zero, Nat.reduceAdd]
                    refine wM_val ?ucm2 rfl rfl Ext.refl (fun w' hD => ?hcm2) (fun phcm2 => ?ncm2)
                    case hcm2 =>
                      obtain ⟨⟨a0, a1, a2, a3, a4⟩, ⟨x0, x1, x2, x3, x4, x5⟩, q0, q1, q2, q3, q4⟩ := FC.out w' (hxr.trans hD.1)
                      go_simp; rfl
                    simp only [Act.put, List.setIfInBounds_toArray, List.set_cons_succ, List.set_cons_zero, Nat.reduceAdd]
                    refine wM_val ?ucm3 rfl rfl Ext.refl (fun w' hD => ?hcm3) (fun phcm3 => ?ncm3)
                    case hcm3 =>
                      obtain ⟨⟨a0, a1, a2, a3, a4⟩, ⟨x0, x1, x2, x3, x4, x5⟩, q0, q1, q2, q3, q4⟩ := FC.out w' (hxr.trans hD.1)
                      go_simp; rfl
                    simp only [Act.put, List.setIfInBounds_toArray, List.set_cons_succ, List.set_cons_zero, Nat.reduceAdd]
                    refine wM_op _ rfl rfl (opens_call ?fcm4 ?gcm4 (fun w' hD => ?hcm4) (fun w' hD => ?ccm4)) (fun v4 hv4 => ?ncm4)
                    case hcm4 => go_simp; constructor <;> rfl
                    case ccm4 =>
                      refine (refevery_any _ f (distL f) kn c w' (HX2.out w' (hxr.trans hD.1)) HCG.out h8).mono ?_
                      rintro e w2 ⟨rfl, hb⟩
                      exact ⟨_, rfl, hb, rfl⟩
                    obtain ⟨_, -, -, rfl⟩ := hv4
                    simp only [Act.put, List.setIfInBounds_toArray, List.set_cons_succ, List.set_cons_zero, Nat.reduceAdd]
                    refine wM_op _ rfl rfl (opens_call ?fcm5 ?gcm5 (fun w' hD => ?hcm5) (fun w' hD => ?ccm5)) (fun v5 hv5 => ?ncm5)
                    case hcm5 => go_simp; constructor <;> rfl
                    case ccm5 =>
                      refine (refcount_any _ f kn c (everyN c) w' (HX2.out w' (hxr.trans hD.1)) HS.out HOK.out HCG.out (every_lt h8)).mono ?_
                      rintro e w2 ⟨rfl, hb⟩
                      exact ⟨_, rfl, hb, by rw [HCN.out]⟩
                    obtain ⟨_, -, -, rfl⟩ := hv5
                    simp only [Act.put, List.setIfInBounds_toArray, List.set_cons_succ, List.set_cons_zero, Nat.reduceAdd]
                    refine wM_val ?ucm6 rfl rfl Ext.refl (fun w' hD => ?hcm6) (fun phcm6 => ?ncm6)
                    case hcm6 =>
                      obtain ⟨⟨a0, a1, a2, a3, a4⟩, ⟨x0, x1, x2, x3, x4, x5⟩, q0, q1, q2, q3, q4⟩ := FC.out w' (hxr.trans hD.1)
                      go_simp; rfl
                    simp only [Act.put, List.setIfInBounds_toArray, List.set_cons_succ, List.set_cons_zero, Nat.reduceAdd]
                    refine wM_nil ?_
                    intro w9 hw9 hF9
                    clear hF9
                    have h50 := hxr.trans hw9
                    by_cases hA0 : A2 = 0
                    · have ba : (A2 == 0) = true := by simp [hA0]
                      have HAE2 : Hid (ae = 7) := by unfold Hid; rw [HAE.out, if_pos hA0]; rfl
                      by_cases hL0 : LX = 0
                      · have bl : (LX == 0) = true := by simp [hL0]
                        have HBE2 : Hid (be = 7) := by unfold Hid; rw [HBE.out, if_pos hL0]; rfl
                        clear hA0 hL0
                        go_wp2
                        go_meet
                        exact ⟨by rw [HAE2.out], by rw [HBE2.out], ⟨none, 0, by rw [HPLN.out]; rfl, by rw [HPLN.out]; exact Ints.nil _ _⟩, h50⟩
                      · have bl : (LX == 0) = false := by simpa using hL0
                        have HBE2 : Hid (be = LX) := by unfold Hid; rw [HBE.out, if_neg hL0]
                        clear hA0 hL0
                        go_wp2
                        go_meet
                        exact ⟨by rw [HAE2.out], by rw [HBE2.out], ⟨none, 0, by rw [HPLN.out]; rfl, by rw [HPLN.out]; exact Ints.nil _ _⟩, h50⟩
                    · have ba : (A2 == 0) = false := by simpa using hA0
                      have HAE2 : Hid (ae = A2) := by unfold Hid; rw [HAE.out, if_neg hA0]
                      by_cases hL0 : LX = 0
                      · have bl : (LX == 0) = true := by simp [hL0]
                        have HBE2 : Hid (be = 7) := by unfold Hid; rw [HBE.out, if_pos hL0]; rfl
                        clear hA0 hL0
                        go_wp2
                        go_meet
                        exact ⟨by rw [HAE2.out], by rw [HBE2.out], ⟨none, 0, by rw [HPLN.out]; rfl, by rw [HPLN.out]; exact Ints.nil _ _⟩, h50⟩
                      · have bl : (LX == 0) = false := by simpa using hL0
                        have HBE2 : Hid (be = LX) := by unfold Hid; rw [HBE.out, if_neg hL0]
                        clear hA0 hL0
                        go_wp2
                        go_meet
                        exact ⟨by rw [HAE2.out], by rw [HBE2.out], ⟨none, 0, by rw [HPLN.out]; rfl, by rw [HPLN.out]; exact Ints.nil _ _⟩, h50⟩
      case rest =>
        clear a0 a1 a2 a3 a4 x0 x1 x2 x3 x4 x5 q0 q1 q2 q3 q4
        obtain ⟨rfl, rfl, ⟨Ap, kp, rfl, hIp⟩, h40⟩ := hcut
        obtain ⟨w40, hw40⟩ : ∃ w40, w40 = wc := ⟨_, rfl⟩
        subst hw40
        have HIP := hid hIp
        clear hIp
        obtain ⟨⟨a0, a1, a2, a3, a4⟩, ⟨x0, x1, x2, x3, x4, x5⟩, q0, q1, q2, q3, q4⟩ := FC.out w40 h40
        go_upto_if 119 with fail
        go_cut [22] (fun s22 wx => PrsR wx s22 AL ∧ Ext w40 wx)
        case first =>
         as_aux_lemma =>
          by_cases ha0 : ae = 0
          case neg =>
            have ba : (ae == 0) = false := by simpa using ha0
            have HE : Hid (AL = []) := by unfold Hid; rw [← H_AL.out]; exact apart_bad H_ae.out ha0
            go_wp2_with fail
            go_meet
            exact ⟨by rw [HE.out]; exact PrsR.nil _, Ext.refl _⟩
          subst ha0
          obtain ⟨hal, hm0, hf1, hf2⟩ := pls_apart H_ae.out
          obtain ⟨hce, -⟩ := mcE_ok hm0
          obtain ⟨hc0, -, -⟩ := cartE_ok hce
          have HOK := hid (checkF_ok hc0)
          have hdd := HD5.out hc0
          subst hdd
          have hpl := pls_lt (k := k) (m := m) HOK.out.pl.2
          rw [H_PL.out] at hpl hal
          have HPL := hid hpl
          have HHC : Hid (∀ x ∈ ch, (0 ≤ x.1 ∧ x.1 < f.pl) ∧ x.2 ≤ 7) := fun x hx => by
            rw [List.all_eq_true] at hf1 hf2
            have h1 := plOK_iff.1 (hf1 x hx)
            have h2 := inB_iff.1 (hf2 x hx)
            exact ⟨h1, h2.2⟩
          have HALE : Hid (pairsM (farM f) ch PL = AL) := by unfold Hid; rw [← hal, H_AL.out]
          clear hal hm0 hf1 hf2 hce hc0 hpl
          have K := refapart_any _ f Ap AC kp kC PL ch w40 (HX.out w40 h40) HS.out HOK.out HIP.out HPL.out.1 HPL.out.2 (HCV.out w40 h40) (by omega) HHC.out
          rw [HALE.out] at K
          have HK := hid K
          clear K
          go_wp2_with fail
          clear a0 a1 a2 a3 a4 x0 x1 x2 x3 x4 x5 q0 q1 q2 q3 q4
          refine HK.out.mono ?_
          clear HK
          rintro e w41 ⟨r, rfl, h, hP⟩
          have HP := hid hP
          clear hP
          go_wp2_with fail
          go_meet
          exact ⟨HP.out, h⟩
        case rest =>
          clear a0 a1 a2 a3 a4 x0 x1 x2 x3 x4 x5 q0 q1 q2 q3 q4
          obtain ⟨⟨A8, k8, rfl, hP8⟩, h41⟩ := hcut
          obtain ⟨w50, hw50⟩ : ∃ w50, w50 = wc := ⟨_, rfl⟩
          subst hw50
          have HP8 := hid hP8
          have HIP2 := hid (HIP.out.ext h41)
          have h50 := h40.trans h41
          clear hP8 h41 HIP
          obtain ⟨⟨a0, a1, a2, a3, a4⟩, ⟨x0, x1, x2, x3, x4, x5⟩, q0, q1, q2, q3, q4⟩ := FC.out w50 h50
          go_upto_if 125 with fail
          go_cut [23, 24, 25, 26, 27, 28] (fun s23 s24 s25 s26 s27 s28 wx => PrsR wx s23 TL ∧ (∃ A c, s24 = .slice A DL.length c ∧ Ints wx A DL) ∧ s25 = .int .i64 AV.1 ∧ s26 = .int .i64 AV.2 ∧ s27 = .int .i64 ce ∧ Ext w50 wx)
          case first =>
           as_aux_lemma =>
            by_cases hb0 : be = 0
            case neg =>
              have bb : (be == 0) = false := by simpa using hb0
              have HE : Hid (ce = be ∧ DL = [] ∧ TL = [] ∧ AV = (0, 0)) := by
                unfold Hid
                rw [← H_ce.out, ← H_DL.out, ← H_TL.out, ← H_AV.out]
                exact decide_bad H_be.out hb0
              go_wp2_with fail
              go_meet
              exact ⟨by rw [HE.out.2.2.1]; exact PrsR.nil _, ⟨none, 0, by rw [HE.out.2.1]; rfl, by rw [HE.out.2.1]; exact Ints.nil _ _⟩, by rw [HE.out.2.2.2], by rw [HE.out.2.2.2], by rw [HE.out.1], Ext.refl _⟩
            subst hb0
            obtain ⟨-, hm0, hn7⟩ := pls_placed H_be.out
            obtain ⟨hce, -⟩ := mcE_ok hm0
            obtain ⟨hc0, -, -⟩ := cartE_ok hce
            have HOK := hid (checkF_ok hc0)
            have hdd := HD5.out hc0
            subst hdd
            have hpl := pls_lt (k := k) (m := m) HOK.out.pl.2
            have htw := twins_pls H_be.out
            have hde := decide_pls H_be.out
            have hav := ask_pls HOK.out H_be.out
            rw [H_PL.out] at hpl htw hde hav
            rw [H_TL.out] at htw
            rw [H_ce.out, H_DL.out] at hde
            rw [H_AV.out] at hav
            have HPL := hid hpl
            have HDE := hid hde
            have HAVE := hid hav
            have HTWE := hid htw
            clear hpl htw hde hav hm0 hce hc0
            have K := reftwins_any _ f Ap kp PL n w50 (HX.out w50 h50) HS.out HOK.out HIP2.out HPL.out.1 HPL.out.2 hn7
            rw [← HTWE.out] at K
            have HK := hid K
            clear K HTWE
            go_wp2_with fail
            clear a0 a1 a2 a3 a4 x0 x1 x2 x3 x4 x5 q0 q1 q2 q3 q4
            refine HK.out.mono ?_
            clear HK
            rintro e w51 ⟨r5, rfl, h, hP5⟩
            have HP5 := hid hP5
            have h51 := h50.trans h
            have HIP3 := hid (HIP2.out.ext h)
            have HX51 := hid h
            clear hP5 h

            obtain ⟨DM, hDM⟩ : ∃ DM, decideM (farM f) f PL n = DM := ⟨_, rfl⟩
            have K := refdecide_any _ f Ap kp PL n w51 (HX.out w51 h51) HS.out HOK.out HIP3.out HPL.out.1 HPL.out.2 hn7
            rw [hDM] at K HDE
            unfold RefDecidePost at K
            rw [← HDE.out.2] at K
            have HK := hid K
            clear K hDM
            obtain ⟨⟨a0, a1, a2, a3, a4⟩, ⟨x0, x1, x2, x3, x4, x5⟩, q0, q1, q2, q3, q4⟩ := FC.out w51 h51
            go_wp2_with fail
            clear a0 a1 a2 a3 a4 x0 x1 x2 x3 x4 x5 q0 q1 q2 q3 q4
            refine (HK.out).mono ?_
            clear HK
            rintro e w52 ⟨r6, rfl, h, A6, k6, rfl, hI6⟩
            have HI6 := hid hI6
            have h52 := h51.trans h
            have HIP4 := hid (HIP3.out.ext h)
            have HX52 := hid (HX51.out.trans h)
            have HP6 := hid (HP5.out.ext h)
            clear h hI6
            have HASK := hid (refask_any _ f Ap kp PL n w52 (HX.out w52 h52) HS.out HOK.out HIP4.out HPL.out.1 HPL.out.2)
            rw [← HAVE.out] at HASK
            obtain ⟨⟨a0, a1, a2, a3, a4⟩, ⟨x0, x1, x2, x3, x4, x5⟩, q0, q1, q2, q3, q4⟩ := FC.out w52 h52
            cases hdm : DM.isSome
            · have HCE : Hid (ce = 6) := by have h := HDE.out.1; rw [hdm] at h; exact h
              go_wp2_with fail
              clear a0 a1 a2 a3 a4 x0 x1 x2 x3 x4 x5 q0 q1 q2 q3 q4
              refine (HASK.out).mono ?_
              rintro e w53 ⟨rfl, h⟩
              have HQ : Hid (PrsR w53 r5 TL ∧ Ints w53 A6 DL ∧ Ext w50 w53) := ⟨HP6.out.ext h, HI6.out.ext h, HX52.out.trans h⟩
              clear h
              go_wp2_with fail
              go_meet
              exact ⟨HQ.out.1, ⟨A6, k6, rfl, HQ.out.2.1⟩, rfl, rfl, by rw [HCE.out], HQ.out.2.2⟩
            · have HCE : Hid (ce = 0) := by have h := HDE.out.1; rw [hdm] at h; exact h
              go_wp2_with fail
              clear a0 a1 a2 a3 a4 x0 x1 x2 x3 x4 x5 q0 q1 q2 q3 q4
              refine (HASK.out).mono ?_
              rintro e w53 ⟨rfl, h⟩
              have HQ : Hid (PrsR w53 r5 TL ∧ Ints w53 A6 DL ∧ Ext w50 w53) := ⟨HP6.out.ext h, HI6.out.ext h, HX52.out.trans h⟩
              clear h
              go_wp2_with fail
              go_meet
              exact ⟨HQ.out.1, ⟨A6, k6, rfl, HQ.out.2.1⟩, rfl, rfl, by rw [HCE.out], HQ.out.2.2⟩
          case rest =>
            clear a0 a1 a2 a3 a4 x0 x1 x2 x3 x4 x5 q0 q1 q2 q3 q4
            obtain ⟨⟨A9, k9, rfl, hP9⟩, ⟨A6, k6, rfl, hI6⟩, rfl, rfl, rfl, h51⟩ := hcut
            obtain ⟨w60, hw60⟩ : ∃ w60, w60 = wc := ⟨_, rfl⟩
            subst hw60
            have HR0 : Hid (Prs w60 A8 AL ∧ Prs w60 A9 TL ∧ Ints w60 A6 DL) := ⟨Rows.ext HP8.out h51, hP9, hI6⟩
            have h60 := h50.trans h51
            clear hP9 hI6 h51 HP8 HIP2
            obtain ⟨V1, V2⟩ := AV
            have HRX : Hid (∀ w', Ext w60 w' → Prs w' A8 AL ∧ Prs w' A9 TL ∧ Ints w' A6 DL) := fun w' h => ⟨Rows.ext HR0.out.1 h, Rows.ext HR0.out.2.1 h, HR0.out.2.2.ext h⟩
            have x60 : Ext w60 w60 := Ext.refl _
            clear HR0
            have K := apart_any _ f k m (some ⟨gd, 0, none⟩) kd ch w60 (HO.out w60 h60) HS.out (HMM.out w60 h60) (by omega)
            have HK := hid K
            clear K
            obtain ⟨⟨a0, a1, a2, a3, a4⟩, ⟨x0, x1, x2, x3, x4, x5⟩, q0, q1, q2, q3, q4⟩ := FC.out w60 h60
            go_wp2_with fail
            clear a0 a1 a2 a3 a4 x0 x1 x2 x3 x4 x5 q0 q1 q2 q3 q4
            refine (HK.out).mono ?_
            clear HK
            rintro e w61 ⟨r1, rfl, h, hP1⟩
            have h61 := h60.trans h
            have x61 := x60.trans h
            have HP1 := hid hP1
            clear hP1
            clear h
            rw [H_ae.out]
            obtain ⟨B1, c1, rfl, hB1⟩ : PrsR w61 r1 AL := by have h := HP1.out; rw [H_AL.out] at h; exact h
            have HB1 : Hid (∀ w', Ext w61 w' → Prs w' B1 AL) := fun w' h => Rows.ext hB1 h
            clear hB1 HP1
            have K := twins_any _ f k m n w61 (HO.out w61 h61) HS.out
            rw [H_be.out, H_TL.out] at K
            have HK := hid K
            clear K
            obtain ⟨⟨a0, a1, a2, a3, a4⟩, ⟨x0, x1, x2, x3, x4, x5⟩, q0, q1, q2, q3, q4⟩ := FC.out w61 h61
            go_wp2_with fail
            clear a0 a1 a2 a3 a4 x0 x1 x2 x3 x4 x5 q0 q1 q2 q3 q4
            refine (HK.out).mono ?_
            clear HK
            rintro e w62 ⟨r2, rfl, h, B2, c2, rfl, hB2⟩
            have h62 := h61.trans h
            have x62 := x61.trans h
            have y62 := h
            have HB2 : Hid (∀ w', Ext w62 w' → Prs w' B2 TL) := fun w' h => Rows.ext hB2 h
            clear hB2
            clear h
            have K := decidex_any _ f k m n w62 (HO.out w62 h62) HS.out
            unfold DecidePost at K
            rw [H_ce.out, H_DL.out] at K
            have HK := hid K
            clear K
            obtain ⟨⟨a0, a1, a2, a3, a4⟩, ⟨x0, x1, x2, x3, x4, x5⟩, q0, q1, q2, q3, q4⟩ := FC.out w62 h62
            go_wp2_with fail
            clear a0 a1 a2 a3 a4 x0 x1 x2 x3 x4 x5 q0 q1 q2 q3 q4
            refine (HK.out).mono ?_
            clear HK
            rintro e w63 ⟨r3, rfl, h, B3, c3, rfl, hB3⟩
            have h63 := h62.trans h
            have x63 := x62.trans h
            have y63 := y62.trans h
            have z63 := h
            have HB3 : Hid (∀ w', Ext w63 w' → Ints w' B3 DL) := fun w' h2 => hB3.ext h2
            clear hB3
            clear h
            have K := askx_any _ f k m n w63 (HO.out w63 h63) HS.out
            rw [H_AV.out, H_be.out] at K
            dsimp only at K
            have HK := hid K
            clear K
            obtain ⟨⟨a0, a1, a2, a3, a4⟩, ⟨x0, x1, x2, x3, x4, x5⟩, q0, q1, q2, q3, q4⟩ := FC.out w63 h63
            go_wp2_with fail
            clear a0 a1 a2 a3 a4 x0 x1 x2 x3 x4 x5 q0 q1 q2 q3 q4
            refine (HK.out).mono ?_
            clear HK
            rintro e w64 ⟨rfl, h⟩
            have h64 := h63.trans h
            have x64 := x63.trans h
            have y64 := y63.trans h
            have z64 := z63.trans h
            have u64 := h
            clear h
            have HLA : Hid (AL.length ≤ 9223372036854775807 ∧ TL.length ≤ 9223372036854775807 ∧ DL.length ≤ 9223372036854775807) := by
              unfold Hid
              rw [← H_AL.out, ← H_TL.out, ← H_DL.out]
              exact dec_lens f k m n ch
            have K := eq_prs B1 A8 c1 k8 AL w64 (HB1.out w64 y64) (HRX.out w64 x64).1 HLA.out.1
            have HK := hid K
            clear K
            obtain ⟨⟨a0, a1, a2, a3, a4⟩, ⟨x0, x1, x2, x3, x4, x5⟩, q0, q1, q2, q3, q4⟩ := FC.out w64 h64
            go_wp2_with fail
            clear a0 a1 a2 a3 a4 x0 x1 x2 x3 x4 x5 q0 q1 q2 q3 q4
            refine (HK.out).mono ?_
            clear HK
            rintro e w65 ⟨rfl, h⟩
            have h65 := h64.trans h
            have x65 := x64.trans h
            have z65 := z64.trans h
            have u65 := u64.trans h
            clear h
            have K := eq_prs B2 A9 c2 k9 TL w65 (HB2.out w65 z65) (HRX.out w65 x65).2.1 HLA.out.2.1
            have HK := hid K
            clear K
            obtain ⟨⟨a0, a1, a2, a3, a4⟩, ⟨x0, x1, x2, x3, x4, x5⟩, q0, q1, q2, q3, q4⟩ := FC.out w65 h65
            go_wp2_with fail
            clear a0 a1 a2 a3 a4 x0 x1 x2 x3 x4 x5 q0 q1 q2 q3 q4
            refine (HK.out).mono ?_
            clear HK
            rintro e w66 ⟨rfl, h⟩
            have h66 := h65.trans h
            have x66 := x65.trans h
            have u66 := u65.trans h
            clear h
            have K := eq_int B3 A6 c3 k6 DL DL w66 (HB3.out w66 u66) (HRX.out w66 x66).2.2 HLA.out.2.2 HLA.out.2.2
            rw [beq_self_eq_true] at K
            have HK := hid K
            clear K
            obtain ⟨⟨a0, a1, a2, a3, a4⟩, ⟨x0, x1, x2, x3, x4, x5⟩, q0, q1, q2, q3, q4⟩ := FC.out w66 h66
            go_wp2_with fail
            clear a0 a1 a2 a3 a4 x0 x1 x2 x3 x4 x5 q0 q1 q2 q3 q4
            refine (HK.out).mono ?_
            clear HK
            rintro e w67 ⟨rfl, h⟩
            have h67 := h66.trans h
            clear h
            have K := same_yes _ _ f w67 (HO.out w67 h67) (HV.out w67 h67) HS.out
            have HK := hid K
            clear K
            obtain ⟨⟨a0, a1, a2, a3, a4⟩, ⟨x0, x1, x2, x3, x4, x5⟩, q0, q1, q2, q3, q4⟩ := FC.out w67 h67
            go_wp2_with fail
            clear a0 a1 a2 a3 a4 x0 x1 x2 x3 x4 x5 q0 q1 q2 q3 q4
            refine (HK.out).mono ?_
            clear HK
            rintro e w68 ⟨rfl, h⟩
            have h68 := h67.trans h
            clear h
            have K := eq_prs (some ⟨gd, 0, none⟩) AC kd kC ch w68 (HMM.out w68 h68) (HCV.out w68 h68) (by omega)
            have HK := hid K
            clear K
            obtain ⟨⟨a0, a1, a2, a3, a4⟩, ⟨x0, x1, x2, x3, x4, x5⟩, q0, q1, q2, q3, q4⟩ := FC.out w68 h68
            go_wp2_with fail
            clear a0 a1 a2 a3 a4 x0 x1 x2 x3 x4 x5 q0 q1 q2 q3 q4
            refine (HK.out).mono ?_
            clear HK
            rintro e w69 ⟨rfl, h⟩
            have h69 := h68.trans h
            clear h
            have K := awake_any w69
            have HK := hid K
            clear K
            obtain ⟨⟨a0, a1, a2, a3, a4⟩, ⟨x0, x1, x2, x3, x4, x5⟩, q0, q1, q2, q3, q4⟩ := FC.out w69 h69
            go_wp2_with fail
            clear a0 a1 a2 a3 a4 x0 x1 x2 x3 x4 x5 q0 q1 q2 q3 q4
            refine (HK.out).mono ?_
            clear HK
            rintro e w70 ⟨rfl, h⟩
            have h70 := h69.trans h
            clear h
            go_wp2
            go_ret
            exact ⟨rfl, HXN.out.trans h70⟩
end Go.Proofs.YtpbpcplboikpcaaGreat
