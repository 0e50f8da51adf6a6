/- The walk of FogReports: the law says true of every fog. Printed by my gen_freports.py. -/
import Derived.Test.YtpbpcplboikpcaaGreatG7
import Derived.Test.YtpbpcplboikpcaaGreatG6
import Derived.Test.YtpbpcplboikpcaaGreatG5
import Derived.Test.YtpbpcplboikpcaaGreatFRepQ
import Derived.Test.YtpbpcplboikpcaaGreatFClear
import Derived.Test.YtpbpcplboikpcaaGreatFAgree
import Derived.Test.YtpbpcplboikpcaaGreatFRef13
import Derived.Test.YtpbpcplboikpcaaGreatFChW
import Derived.Laws.StructEq
import Derived.Deep.DeepCutAuto
import Derived.Deep.CutBlock
namespace Go.Proofs.YtpbpcplboikpcaaGreat
open Go Go.RowKit Go.Shelf
set_option linter.unusedVariables false
set_option linter.unusedSimpArgs false

set_option maxRecDepth 100000 in
set_option maxHeartbeats 16000000 in
theorem reportsw_any (v : Value) (f : Fg) (k : Int) (r : Rp) (AC : Option Addr) (kC : Nat) (l : List Int) (w : World) (hf : FgR w v f) (hl : f.ct.length ≤ 9223372036854775807) (hLI : Ints w AC l) (hcl : l.length ≤ 9223372036854775807) :
    Calls Tryz.prog 4 #[v, .int .i64 k, r.val, .slice AC l.length kC] w fun e w' => e = .returned (.bool true) ∧ Ext w w' := by
  obtain ⟨s, rfl, hr⟩ := hf.rows
  obtain ⟨W0, hW0⟩ : ∃ W0, (w.alloc (.cells #[.int .i64 f.pl, .int .i64 f.mi, .slice s.a1 f.tr.length s.c1, .slice s.a2 f.bl.length s.c2, .slice s.a3 f.ct.length s.c3] 28)).alloc (.cells #[.int .i64 r.bl, .bool r.hd] 53) = W0 := ⟨_, rfl⟩
  have hx0 : Ext w W0 := by rw [← hW0]; exact (Ext.alloc (Ext.refl w) _).alloc _
  have FR0 : Hid (∀ w', Ext W0 w' → w'.cell? ⟨w.heap.size + 1, 0, none⟩ = some (.int .i64 r.bl) ∧ w'.cell? ⟨w.heap.size + 1, 1, none⟩ = some (.bool r.hd)) := fun w' h => ⟨h.cell (by rw [← hW0]; simp [go_sem]), h.cell (by rw [← hW0]; simp [go_sem])⟩
  have FX : Hid (∀ w', Ext W0 w' → w'.cell? ⟨w.heap.size, 0, none⟩ = some (.int .i64 f.pl) ∧ w'.cell? ⟨w.heap.size, 1, none⟩ = some (.int .i64 f.mi) ∧ w'.cell? ⟨w.heap.size, 2, none⟩ = some (.slice s.a1 f.tr.length s.c1) ∧ w'.cell? ⟨w.heap.size, 3, none⟩ = some (.slice s.a2 f.bl.length s.c2) ∧ w'.cell? ⟨w.heap.size, 4, none⟩ = some (.slice s.a3 f.ct.length s.c3)) := fun w' h => ⟨h.cell (by rw [← hW0]; simp [go_sem]), h.cell (by rw [← hW0]; simp [go_sem]), h.cell (by rw [← hW0]; simp [go_sem]), h.cell (by rw [← hW0]; simp [go_sem]), h.cell (by rw [← hW0]; simp [go_sem])⟩
  obtain ⟨q0, q1, q2, q3, q4⟩ := FX.out W0 (Ext.refl _)
  have K1 := great_any (s.val f) f W0 (hf.ext hx0) hl
  obtain ⟨GR, hGR⟩ : ∃ GR, greatF f = GR := ⟨_, rfl⟩
  rw [hGR] at K1
  have HGR := hid hGR
  have HF0 := hid hf
  clear hf
  unfold Ads.val fval
  unfold Ads.val fval at K1
  have HCH0 := hid hLI
  clear hLI
  have HFR := hid hr
  unfold Rp.val
  go_enter Tryz.func4, Tryz.ntmps4
  go_upto_region 1 with fail
  try rw [hW0]
  clear hW0
  go_wp2_with fail
  clear q0 q1 q2 q3 q4
  refine K1.mono ?_
  clear K1
  rintro e w1 ⟨rfl, hb1⟩
  have hx1 := hx0.trans hb1
  clear hGR
  cases GR
  case true =>
    go_wp2_with fail
    refine (awake_any w1).mono ?_
    rintro e w2 ⟨rfl, hb2⟩
    go_wp2
    go_ret
    exact ⟨rfl, hx1.trans hb2⟩
  by_cases hc12 : (12 : Int) < (l.length : Int)
  · go_wp2_with fail
    refine (awake_any w1).mono ?_
    rintro e w2 ⟨rfl, hb2⟩
    go_wp2
    go_ret
    exact ⟨rfl, hx1.trans hb2⟩
  have hch12 : l.length ≤ 12 := by omega
  have HCP : Hid (∀ w', Ext w1 w' → Ints w' AC l) := fun w' h => HCH0.out.ext (hx1.trans h)
  have HS := hid (great_sized HGR.out)
  have HF : Hid (∀ w', Ext w1 w' → FgR w' (.agg #[.int .i64 f.pl, .int .i64 f.mi, .slice s.a1 f.tr.length s.c1, .slice s.a2 f.bl.length s.c2, .slice s.a3 f.ct.length s.c3]) f) := fun w' h => HF0.out.ext (hx1.trans h)
  clear HGR hl hr HF0
  go_wp2
  refine wp_region_shut_tail Ext (fun w' => Ext w1 w') (fun
    | 1 => some (fun v w' => OwnV w' f v)
    | 3 => some (fun v w' => TheirsV w' f v)
    | 6 => some (fun v w' => ∃ B, v = .pointer (some ⟨B, 0, none⟩) ∧ w1.heap.size ≤ B ∧ w'.heap[B]? = some (.cells #[.int .i64 0, .int .i64 0, .slice none 0 0, .slice none 0 0, .slice none 0 0] 28 (0, 0)))
    | 7 => some (fun v w' => ∃ B, v = .pointer (some ⟨B, 0, none⟩) ∧ w1.heap.size ≤ B ∧ w'.heap[B]? = some (.cells #[.int .i64 0, .int .i64 0, .slice none 0 0, .slice none 0 0, .slice none 0 0, .slice none 0 0] 37 (0, 0)))
    | 5 => some (fun v w' => ∃ g c', v = .slice (some ⟨g, 0, none⟩) l.length c' ∧ ∃ B, w'.ownsRow B 3 1 (.slice (some ⟨g, 0, none⟩) l.length c') l.length (l.map (.int .i64)))
    | _ => none) 8 (by kernel_rfl) (by kernel_rfl) (fun _ _ h k => h.trans k) ?hT (Ext.drew (Ext.refl w1)) ?_
  case hT =>
    intro i R hR
    match i, hR with
    | 1, hR => cases hR; exact fun _ _ _ h k => h.ext k
    | 3, hR => cases hR; exact fun _ _ _ h k => h.ext k
    | 6, hR => cases hR; exact fun _ _ _ ⟨B, e, h1, h⟩ k => ⟨B, e, h1, (Below.block k B (Array.getElem?_eq_some_iff.1 h).1).trans h⟩
    | 7, hR => cases hR; exact fun _ _ _ ⟨B, e, h1, h⟩ k => ⟨B, e, h1, (Below.block k B (Array.getElem?_eq_some_iff.1 h).1).trans h⟩
    | 5, hR => cases hR; exact fun _ _ _ ⟨g, c', e, B, h⟩ k => ⟨g, c', e, B, own_below h k⟩
  refine wM_val ?ua0 rfl rfl Ext.refl (fun w' hD => ?ha0) (fun pha0 => ?na0)
  case ha0 =>
    obtain ⟨d0, d1, d2, d3, d4⟩ := FX.out _ (hb1.trans hD.1)
    go_simp; rfl
  simp only [Act.put, List.setIfInBounds_toArray, List.set_cons_succ, List.set_cons_zero, Nat.reduceAdd]
  refine wM_op _ rfl rfl (opens_call ?fa1 ?ga1 (fun w' hD => ?ha1) (fun w' hD => ?ca1)) (fun v1 hv1 => ?na1)
  case ha1 => go_simp; constructor <;> rfl
  case ca1 =>
    refine (own_any _ f w' (HF.out w' hD.1) HS.out).mono ?_
    rintro e w2 ⟨v, rfl, hb, ho⟩
    exact ⟨_, rfl, hb, own_cells ho⟩
  obtain ⟨_, -, -, g1, k1, g2, k2, D3, k3, rfl, -⟩ := hv1
  simp only [Act.put, List.setIfInBounds_toArray, List.set_cons_succ, List.set_cons_zero, Nat.reduceAdd]
  refine wM_val ?ua2 rfl rfl Ext.refl (fun w' hD => ?ha2) (fun pha2 => ?na2)
  case ha2 =>
    obtain ⟨d0, d1, d2, d3, d4⟩ := FX.out _ (hb1.trans hD.1)
    go_simp; rfl
  simp only [Act.put, List.setIfInBounds_toArray, List.set_cons_succ, List.set_cons_zero, Nat.reduceAdd]
  refine wM_op _ rfl rfl (opens_call ?fa3 ?ga3 (fun w' hD => ?ha3) (fun w' hD => ?ca3)) (fun v3 hv3 => ?na3)
  case ha3 => go_simp; constructor <;> rfl
  case ca3 =>
    refine (theirs_any _ f w' (HF.out w' hD.1) HS.out).mono ?_
    rintro e w2 ⟨v, d, rfl, hb, ho, hd⟩
    exact ⟨_, rfl, hb, theirs_cells ho hd⟩
  obtain ⟨_, -, -, a5, q5, b5, r5, c5, t5, A5, n5, k5, rfl, -⟩ := hv3
  simp only [Act.put, List.setIfInBounds_toArray, List.set_cons_succ, List.set_cons_zero, Nat.reduceAdd]
  refine wM_val ?ua4 rfl rfl Ext.refl (fun w' hD => ?ha4) (fun pha4 => ?na4)
  case ha4 =>
    obtain ⟨d0, d1, d2, d3, d4⟩ := FX.out _ (hb1.trans hD.1)
    go_simp; rfl
  simp only [Act.put, List.setIfInBounds_toArray, List.set_cons_succ, List.set_cons_zero, Nat.reduceAdd]
  refine wM_op _ rfl rfl (opens_call ?fa5 ?ga5 (fun w' hD => ?ha5) (fun w' hD => ?ca5)) (fun v5 hv5 => ?na5)
  case ha5 => go_simp; constructor <;> rfl
  case ca5 =>
    refine (dup_int AC kC l w' (HCP.out w' hD.1) (by omega)).mono ?_
    rintro e w2 ⟨g, c', rfl, ho, hb⟩
    exact ⟨_, rfl, hb, g, c', rfl, _, ho⟩
  obtain ⟨_, -, -, gd, kd, rfl, -⟩ := hv5
  simp only [Act.put, List.setIfInBounds_toArray, List.set_cons_succ, List.set_cons_zero, Nat.reduceAdd]
  refine wM_op _ rfl rfl (opens_val (fun w' hD => ?hm6)) (fun va6 hva6 => ?nm6)
  case hm6 =>
    refine ⟨.pointer (some ⟨w'.heap.size, 0, none⟩), w'.alloc (.cells #[.int .i64 0, .int .i64 0, .slice none 0 0, .slice none 0 0, .slice none 0 0] 28), ?_, Ext.alloc (Ext.refl _) _, w'.heap.size, rfl, hD.1.size, World.alloc_heap_new _ _⟩
    go_simp
  obtain ⟨_, -, -, Ba, rfl, -⟩ := hva6
  simp only [Act.put, List.setIfInBounds_toArray, List.set_cons_succ, List.set_cons_zero, Nat.reduceAdd]
  refine wM_op _ rfl rfl (opens_val (fun w' hD => ?hm7)) (fun va7 hva7 => ?nm7)
  case hm7 =>
    refine ⟨.pointer (some ⟨w'.heap.size, 0, none⟩), w'.alloc (.cells #[.int .i64 0, .int .i64 0, .slice none 0 0, .slice none 0 0, .slice none 0 0, .slice none 0 0] 37), ?_, Ext.alloc (Ext.refl _) _, w'.heap.size, rfl, hD.1.size, World.alloc_heap_new _ _⟩
    go_simp
  obtain ⟨_, -, -, Bb, rfl, -⟩ := hva7
  simp only [Act.put, List.setIfInBounds_toArray, List.set_cons_succ, List.set_cons_zero, Nat.reduceAdd]
  refine wM_nil ?_
  intro w9 hw9 hF9
  obtain ⟨-, g1', k1', g2', k2', D3', k3', e1, ho1⟩ := hF9 1
  cases e1
  obtain ⟨-, a5', q5', b5', r5', c5', t5', A5', n5', k5', e5, d, ho5, hd5⟩ := hF9 3
  cases e5
  obtain ⟨-, gd', kd', ed, Bd, hod⟩ := hF9 5
  cases ed
  obtain ⟨-, Ba', e6, hBa, GA⟩ := hF9 6
  cases e6
  obtain ⟨-, Bb', e7, hBb, GB⟩ := hF9 7
  cases e7
  clear hF9
  have hab : Ba ≠ Bb := fun e => by
    rw [e, GB] at GA
    injection GA with e1
    injection e1 with _ e2 _
    exact absurd e2 (by decide)
  have hba : Bb ≠ Ba := fun e => hab e.symm
  have hFB : FogB w9 (fun n => n = Ba ∨ n = Bb) := fun n hn => by
    rcases hn with e | e
    · exact ⟨_, _, by rw [e]; exact GA, by decide, by decide, by decide, by decide, by decide⟩
    · exact ⟨_, _, by rw [e]; exact GB, by decide, by decide, by decide, by decide, by decide⟩
  have hRB : RefB w9 (fun n => n = Ba ∨ n = Bb) := fun n hn => by
    rcases hn with e | e
    · exact ⟨_, _, by rw [e]; exact GA, by decide, by decide, by decide, by decide, by decide, by decide⟩
    · exact ⟨_, _, by rw [e]; exact GB, by decide, by decide, by decide, by decide, by decide, by decide⟩
  obtain ⟨Wn, hWn⟩ : ∃ Wn, (((((((((((w9.setCell ⟨Ba, 0, none⟩ (.int .i64 f.pl)).setCell ⟨Ba, 1, none⟩ (.int .i64 f.mi)).setCell ⟨Ba, 2, none⟩ (.slice (some ⟨g1, 0, none⟩) f.tr.length k1)).setCell ⟨Ba, 3, none⟩ (.slice (some ⟨g2, 0, none⟩) f.bl.length k2)).setCell ⟨Ba, 4, none⟩ (.slice D3 f.ct.length k3)).setCell ⟨Bb, 0, none⟩ (.int .i64 f.pl)).setCell ⟨Bb, 1, none⟩ (.int .i64 f.mi)).setCell ⟨Bb, 2, none⟩ (.slice a5 f.tr.length q5)).setCell ⟨Bb, 3, none⟩ (.slice b5 f.bl.length r5)).setCell ⟨Bb, 4, none⟩ (.slice c5 f.ct.length t5)).setCell ⟨Bb, 5, none⟩ (.slice A5 n5 k5)) = Wn := ⟨_, rfl⟩
  have hbn : BelS (fun n => n = Ba ∨ n = Bb) w9 Wn := by
    rw [← hWn]
    exact ((((((((((((BelS.refl _ w9).setCell (S := fun n => n = Ba ∨ n = Bb) ⟨Ba, 0, none⟩ _ (.inl rfl)).setCell (S := fun n => n = Ba ∨ n = Bb) ⟨Ba, 1, none⟩ _ (.inl rfl)).setCell (S := fun n => n = Ba ∨ n = Bb) ⟨Ba, 2, none⟩ _ (.inl rfl)).setCell (S := fun n => n = Ba ∨ n = Bb) ⟨Ba, 3, none⟩ _ (.inl rfl)).setCell (S := fun n => n = Ba ∨ n = Bb) ⟨Ba, 4, none⟩ _ (.inl rfl)).setCell (S := fun n => n = Ba ∨ n = Bb) ⟨Bb, 0, none⟩ _ (.inr rfl)).setCell (S := fun n => n = Ba ∨ n = Bb) ⟨Bb, 1, none⟩ _ (.inr rfl)).setCell (S := fun n => n = Ba ∨ n = Bb) ⟨Bb, 2, none⟩ _ (.inr rfl)).setCell (S := fun n => n = Ba ∨ n = Bb) ⟨Bb, 3, none⟩ _ (.inr rfl)).setCell (S := fun n => n = Ba ∨ n = Bb) ⟨Bb, 4, none⟩ _ (.inr rfl)).setCell (S := fun n => n = Ba ∨ n = Bb) ⟨Bb, 5, none⟩ _ (.inr rfl))
  have hx0n : Ext W0 Wn := by
    have h1 : W0.heap.size ≤ Ba := Nat.le_trans hb1.size hBa
    have h2 : W0.heap.size ≤ Bb := Nat.le_trans hb1.size hBb
    rw [← hWn]
    exact ((((((((((((hb1.trans hw9).setCell (by simpa using h1) _).setCell (by simpa using h1) _).setCell (by simpa using h1) _).setCell (by simpa using h1) _).setCell (by simpa using h1) _).setCell (by simpa using h2) _).setCell (by simpa using h2) _).setCell (by simpa using h2) _).setCell (by simpa using h2) _).setCell (by simpa using h2) _).setCell (by simpa using h2) _)
  have hx1n : Ext w1 Wn := by
    rw [← hWn]
    exact (((((((((((hw9.setCell (by simpa using hBa) _).setCell (by simpa using hBa) _).setCell (by simpa using hBa) _).setCell (by simpa using hBa) _).setCell (by simpa using hBa) _).setCell (by simpa using hBb) _).setCell (by simpa using hBb) _).setCell (by simpa using hBb) _).setCell (by simpa using hBb) _).setCell (by simpa using hBb) _).setCell (by simpa using hBb) _)
  have p0 := block_cell (i := 0) GA
  have f0 := blk_free (i := 0) GA
  have p1 := block_cell (i := 1) GA
  have f1 := blk_free (i := 1) GA
  have p2 := block_cell (i := 2) GA
  have f2 := blk_free (i := 2) GA
  have p3 := block_cell (i := 3) GA
  have f3 := blk_free (i := 3) GA
  have p4 := block_cell (i := 4) GA
  have f4 := blk_free (i := 4) GA
  have u0 := block_cell (i := 0) GB
  have v0 := blk_free (i := 0) GB
  have u1 := block_cell (i := 1) GB
  have v1 := blk_free (i := 1) GB
  have u2 := block_cell (i := 2) GB
  have v2 := blk_free (i := 2) GB
  have u3 := block_cell (i := 3) GB
  have v3 := blk_free (i := 3) GB
  have u4 := block_cell (i := 4) GB
  have v4 := blk_free (i := 4) GB
  have u5 := block_cell (i := 5) GB
  have v5 := blk_free (i := 5) GB
  simp only [List.getElem?_toArray, List.getElem?_cons_zero, List.getElem?_cons_succ] at p0 p1 p2 p3 p4 u0 u1 u2 u3 u4 u5
  have FN : Hid ((Wn.cell? ⟨Ba, 0, none⟩ = some (.int .i64 f.pl) ∧ Wn.cell? ⟨Ba, 1, none⟩ = some (.int .i64 f.mi) ∧ Wn.cell? ⟨Ba, 2, none⟩ = some (.slice (some ⟨g1, 0, none⟩) f.tr.length k1) ∧ Wn.cell? ⟨Ba, 3, none⟩ = some (.slice (some ⟨g2, 0, none⟩) f.bl.length k2) ∧ Wn.cell? ⟨Ba, 4, none⟩ = some (.slice D3 f.ct.length k3)) ∧ Wn.cell? ⟨Bb, 0, none⟩ = some (.int .i64 f.pl) ∧ Wn.cell? ⟨Bb, 1, none⟩ = some (.int .i64 f.mi) ∧ Wn.cell? ⟨Bb, 2, none⟩ = some (.slice a5 f.tr.length q5) ∧ Wn.cell? ⟨Bb, 3, none⟩ = some (.slice b5 f.bl.length r5) ∧ Wn.cell? ⟨Bb, 4, none⟩ = some (.slice c5 f.ct.length t5) ∧ Wn.cell? ⟨Bb, 5, none⟩ = some (.slice A5 n5 k5)) := by
    unfold Hid
    rw [← hWn]
    have hab' := hab
    have hba' := hba
    simp [go_sem, p0, p1, p2, p3, p4, u0, u1, u2, u3, u4, u5, hab', hba']
  have HOF : Hid (OwnF Wn (.agg #[.int .i64 f.pl, .int .i64 f.mi, .slice (some ⟨g1, 0, none⟩) f.tr.length k1, .slice (some ⟨g2, 0, none⟩) f.bl.length k2, .slice D3 f.ct.length k3]) f) := ho1.keep hbn hFB
  have HTF : Hid (TheirsF Wn (.agg #[.int .i64 f.pl, .int .i64 f.mi, .slice a5 f.tr.length q5, .slice b5 f.bl.length r5, .slice c5 f.ct.length t5, .slice A5 n5 k5]) f d) := ho5.keep hbn hRB
  have HKD : Hid (l.length ≤ kd) := own_cap hod
  have HMI : Hid (Ints Wn (some ⟨gd, 0, none⟩) l) := Rd.of_own (hbn.own hod (fun g hg hs => by obtain ⟨cs, T, hh, n1, n2, n3, n4, n5⟩ := hFB g hs; exact own_ne hod hh n4 hg))
  clear hod
  have HD5 := hid hd5
  clear ho1 ho5 hbn hFB hRB GA GB hd5
  obtain ⟨⟨a0, a1, a2, a3, a4⟩, x0, x1, x2, x3, x4, x5⟩ := FN.out
  have FC : Hid (∀ w', Ext Wn w' → (w'.cell? ⟨Ba, 0, none⟩ = some (.int .i64 f.pl) ∧ w'.cell? ⟨Ba, 1, none⟩ = some (.int .i64 f.mi) ∧ w'.cell? ⟨Ba, 2, none⟩ = some (.slice (some ⟨g1, 0, none⟩) f.tr.length k1) ∧ w'.cell? ⟨Ba, 3, none⟩ = some (.slice (some ⟨g2, 0, none⟩) f.bl.length k2) ∧ w'.cell? ⟨Ba, 4, none⟩ = some (.slice D3 f.ct.length k3)) ∧ (w'.cell? ⟨Bb, 0, none⟩ = some (.int .i64 f.pl) ∧ w'.cell? ⟨Bb, 1, none⟩ = some (.int .i64 f.mi) ∧ w'.cell? ⟨Bb, 2, none⟩ = some (.slice a5 f.tr.length q5) ∧ w'.cell? ⟨Bb, 3, none⟩ = some (.slice b5 f.bl.length r5) ∧ w'.cell? ⟨Bb, 4, none⟩ = some (.slice c5 f.ct.length t5) ∧ w'.cell? ⟨Bb, 5, none⟩ = some (.slice A5 n5 k5)) ∧ w'.cell? ⟨w.heap.size, 0, none⟩ = some (.int .i64 f.pl) ∧ w'.cell? ⟨w.heap.size, 1, none⟩ = some (.int .i64 f.mi) ∧ w'.cell? ⟨w.heap.size, 2, none⟩ = some (.slice s.a1 f.tr.length s.c1) ∧ w'.cell? ⟨w.heap.size, 3, none⟩ = some (.slice s.a2 f.bl.length s.c2) ∧ w'.cell? ⟨w.heap.size, 4, none⟩ = some (.slice s.a3 f.ct.length s.c3)) := fun w' h => ⟨⟨h.cell a0, h.cell a1, h.cell a2, h.cell a3, h.cell a4⟩, ⟨h.cell x0, h.cell x1, h.cell x2, h.cell x3, h.cell x4, h.cell x5⟩, FX.out w' (hx0n.trans h)⟩
  obtain ⟨-, -, q0, q1, q2, q3, q4⟩ := FC.out Wn (Ext.refl _)
  have HO : Hid (∀ w', Ext Wn w' → FgR w' (.agg #[.int .i64 f.pl, .int .i64 f.mi, .slice (some ⟨g1, 0, none⟩) f.tr.length k1, .slice (some ⟨g2, 0, none⟩) f.bl.length k2, .slice D3 f.ct.length k3]) f) := fun w' h => HOF.out.fg.ext h
  have HX : Hid (∀ w', Ext Wn w' → RgR w' (.agg #[.int .i64 f.pl, .int .i64 f.mi, .slice a5 f.tr.length q5, .slice b5 f.bl.length r5, .slice c5 f.ct.length t5, .slice A5 n5 k5]) f d) := fun w' h => HTF.out.rg.ext h
  have HV : Hid (∀ w', Ext Wn w' → FgR w' (.agg #[.int .i64 f.pl, .int .i64 f.mi, .slice s.a1 f.tr.length s.c1, .slice s.a2 f.bl.length s.c2, .slice s.a3 f.ct.length s.c3]) f) := fun w' h => HF.out w' (hx1n.trans h)
  have HXN : Hid (Ext w Wn) := hx1.trans hx1n
  have HMM : Hid (∀ w', Ext Wn w' → Ints w' (some ⟨gd, 0, none⟩) l) := fun w' h => HMI.out.ext h
  have HCV : Hid (∀ w', Ext Wn w' → Ints w' AC l) := fun w' h => HCP.out w' (hx1n.trans h)
  have FRN : Hid (∀ w', Ext Wn w' → w'.cell? ⟨w.heap.size + 1, 0, none⟩ = some (.int .i64 r.bl) ∧ w'.cell? ⟨w.heap.size + 1, 1, none⟩ = some (.bool r.hd)) := fun w' h => FR0.out w' (hx0n.trans h)
  have HFW : Hid (∀ w', Ext Wn w' → FRows w' s f) := fun w' h => HFR.out.ext ((hx1.trans hx1n).trans h)
  have h0 : Ext Wn Wn := Ext.refl _
  clear FX HF HOF HTF FN hx0n hx1n hx1 hx0 hb1 hBa hBb hw9 HMI HCP HFR FR0
  simp only [List.drop_succ_cons, List.drop_zero]
  obtain ⟨T, hT⟩ : ∃ T, checkF f = T := ⟨_, rfl⟩
  have HT := hid hT
  have K := refcheck_any _ f d Wn (HX.out Wn h0) HS.out
  rw [hT] at K
  have HK := hid K
  clear K hT
  go_wp2_with fail
  try rw [hWn]
  clear hWn hab hba p0 p1 p2 p3 p4 u0 u1 u2 u3 u4 u5 f0 f1 f2 f3 f4 v0 v1 v2 v3 v4 v5
  clear a0 a1 a2 a3 a4 x0 x1 x2 x3 x4 x5 q0 q1 q2 q3 q4
  refine HK.out.mono ?_
  clear HK
  rintro e w10 ⟨rfl, h⟩
  have h10 : Ext Wn w10 := h
  clear h h0
  obtain ⟨E1, hE1⟩ : ∃ E1, cartE f k = E1 := ⟨_, rfl⟩
  have H_E1 := hid hE1
  clear hE1
  obtain ⟨AE, hAE⟩ : ∃ AE, withE f k r = AE := ⟨_, rfl⟩
  have H_AE := hid hAE
  clear hAE
  obtain ⟨BE, hBE⟩ : ∃ BE, agreeE f k l = BE := ⟨_, rfl⟩
  have H_BE := hid hBE
  clear hBE
  obtain ⟨CE, hCE⟩ : ∃ CE, clashE f k = CE := ⟨_, rfl⟩
  have H_CE := hid hCE
  clear hCE
  obtain ⟨AG, hAG⟩ : ∃ AG, agreeV f k l = AG := ⟨_, rfl⟩
  have H_AG := hid hAG
  clear hAG
  obtain ⟨CL, hCL⟩ : ∃ CL, clashL f k = CL := ⟨_, rfl⟩
  have H_CL := hid hCL
  clear hCL
  obtain ⟨WF, hWF⟩ : ∃ WF, wantF f k r = WF := ⟨_, rfl⟩
  have H_WF := hid hWF
  clear hWF
  have HCL : Hid (CL.length ≤ 1000) := by unfold Hid; rw [← H_CL.out]; exact clash_len f k
  have HWS : Hid (WF.sized) := by unfold Hid; rw [← H_WF.out]; exact want_sized HS.out
  obtain ⟨⟨a0, a1, a2, a3, a4⟩, ⟨x0, x1, x2, x3, x4, x5⟩, q0, q1, q2, q3, q4⟩ := FC.out w10 h10
  go_upto_if 47 with fail
  go_cut [12] (fun s12 wx => s12 = .int .i64 E1 ∧ Ext Wn wx)
  case first =>
    by_cases hT0 : T = 0
    case neg =>
      have bT : (T == 0) = false := by simpa using hT0
      have HE : Hid (E1 = T) := by unfold Hid; rw [← H_E1.out]; exact cart_bad HT.out hT0
      go_wp2_with fail
      go_meet
      exact ⟨by rw [HE.out], h10⟩
    subst hT0
    clear a0 a1 a2 a3 a4 x0 x1 x2 x3 x4 x5 q0 q1 q2 q3 q4
    have K := refcart_any _ f d k w10 (HX.out w10 h10) HS.out
    rw [← cart_in HT.out, H_E1.out] at K
    have HK := hid K
    clear K
    obtain ⟨⟨a0, a1, a2, a3, a4⟩, ⟨x0, x1, x2, x3, x4, x5⟩, q0, q1, q2, q3, q4⟩ := FC.out w10 h10
    go_wp2_with fail
    clear a0 a1 a2 a3 a4 x0 x1 x2 x3 x4 x5 q0 q1 q2 q3 q4
    refine (HK.out).mono ?_
    clear HK
    rintro e w12 ⟨rfl, h⟩
    have h12 := h10.trans h
    clear h
    go_wp2_with fail
    go_meet
    exact ⟨rfl, h12⟩
  case rest =>
    clear a0 a1 a2 a3 a4 x0 x1 x2 x3 x4 x5 q0 q1 q2 q3 q4
    obtain ⟨rfl, h20⟩ := hcut
    obtain ⟨w20, hw20⟩ : ∃ w20, w20 = wc := ⟨_, rfl⟩
    subst hw20
    obtain ⟨Bw, hBw⟩ : ∃ Bw, w20.heap.size = Bw := ⟨_, rfl⟩
    obtain ⟨w21, hw21⟩ : ∃ w21, w20.alloc (.cells #[.int .i64 0, .int .i64 0, .slice none 0 0, .slice none 0 0, .slice none 0 0] 28) = w21 := ⟨_, rfl⟩
    have h2021 : Ext w20 w21 := by rw [← hw21]; exact Ext.alloc (Ext.refl _) _
    have h21 : Ext Wn w21 := h20.trans h2021
    have GZ : Hid (w21.heap[Bw]? = some (.cells #[.int .i64 0, .int .i64 0, .slice none 0 0, .slice none 0 0, .slice none 0 0] 28 (0, 0))) := by unfold Hid; rw [← hw21, ← hBw]; exact heap_alloc_new w20 _
    have HBw : Hid (Wn.heap.size ≤ Bw) := by have := h20.size; unfold Hid; omega
    have HE1 := hid hBw
    have HE2 := hid hw21
    clear hBw hw21
    go_upto_region 9 with fail
    rw [HE2.out, HE1.out]
    clear HE1 HE2 h2021
    go_upto_if 56 with fail
    go_cut [13, 14, 15, 17, 18] (fun s13 s14 s15 s17 s18 wx => s13 = .int .i64 AE ∧ s14 = .int .i64 BE ∧ s15 = .int .i64 CE ∧ s17 = .bool AG ∧ (∃ A c, s18 = .slice A CL.length c ∧ Ints wx A CL) ∧ FogAt wx Bw WF ∧ Ext Wn wx)
    case first =>
     as_aux_lemma =>
      by_cases hE0 : E1 = 0
      case neg =>
        have bE : (E1 == 0) = false := by simpa using hE0
        have HV : Hid (AE = E1 ∧ BE = E1 ∧ CE = E1 ∧ AG = false ∧ CL = [] ∧ WF = zeroF) := by
          have e : cartE f k ≠ 0 := by rw [H_E1.out]; exact hE0
          have e1 : withE f k r = E1 := by unfold withE; rw [if_pos e, H_E1.out]
          have e2 : agreeE f k l = E1 := by unfold agreeE; rw [if_pos e, H_E1.out]
          have e3 : clashE f k = E1 := by unfold clashE; rw [if_pos e, H_E1.out]
          unfold Hid
          rw [← H_AE.out, ← H_BE.out, ← H_CE.out, ← H_AG.out, ← H_CL.out, ← H_WF.out]
          refine ⟨e1, e2, e3, ?_, ?_, ?_⟩
          · unfold agreeV; rw [e2, decide_eq_false hE0]; rfl
          · unfold clashL; rw [e3, if_neg hE0]
          · unfold wantF; rw [e1, if_neg hE0]
        have HFA : Hid (FogAt w21 Bw zeroF) := FogAt.zero GZ.out
        go_wp2_with fail
        go_meet
        exact ⟨by rw [HV.out.1], by rw [HV.out.2.1], by rw [HV.out.2.2.1], by rw [HV.out.2.2.2.1], ⟨none, 0, by rw [HV.out.2.2.2.2.1]; rfl, by rw [HV.out.2.2.2.2.1]; exact Ints.nil _ _⟩, by rw [HV.out.2.2.2.2.2]; exact HFA.out, h21⟩
      subst hE0
      obtain ⟨hc0, hk0, hk1⟩ := cartE_ok H_E1.out
      have HOK := hid (checkF_ok hc0)
      have hdd := HD5.out hc0
      subst hdd
      obtain ⟨kn, rfl⟩ : ∃ kn : Nat, k = kn := ⟨k.toNat, by omega⟩
      obtain ⟨c, hcg⟩ := get_of_lt f.ct kn (by omega)
      have HCG := hid hcg
      have HCM : Hid (c ∈ f.ct) := mem_of_get hcg
      have HCA : Hid (ctAt f (kn : Int) = c) := by unfold Hid ctAt; rw [Int.toNat_natCast, List.getD_eq_getElem?_getD, hcg]; rfl
      have hkl : kn < f.ct.length := by omega
      have hkl' : (kn : Int) < (f.ct.length : Int) := by omega
      have HR1 : Hid (refAgE c l = BE) := by
        have h := H_BE.out
        unfold agreeE at h
        rw [if_neg (fun h => h H_E1.out), HCA.out] at h
        exact h
      have HR2 : Hid ((decide (BE = 0) && agreedM (farM f) f c l) = AG) := by
        have h := H_AG.out
        unfold agreeV at h
        rw [H_BE.out, HCA.out] at h
        exact h
      obtain ⟨R, hR⟩ : ∃ R, clashF (farM f) f c = R := ⟨_, rfl⟩
      obtain ⟨RS, hRS⟩ : ∃ RS, R.isSome = RS := ⟨_, rfl⟩
      have HRS := hid hRS
      have HCE : Hid (CE = if RS then 0 else 6) := by
        unfold Hid; rw [← H_CE.out]; unfold clashE
        rw [if_neg (fun h => h H_E1.out), HCA.out, hR, ← hRS]
      have HR3 : Hid (R.getD [] = CL) := by
        unfold Hid; rw [← H_CL.out]; unfold clashL
        rw [H_CE.out, HCE.out, HCA.out, hR, ← hRS]
        cases R <;> rfl
      have HRE := hid hR
      clear hcg hk0 hk1 hc0 hR hRS
      have K := refagree_any _ f kn c AC kC l w21 (HX.out w21 h21) HS.out HOK.out HCG.out (HCV.out w21 h21) (by omega)
      rw [HR1.out, HR2.out] at K
      have HK := hid K
      clear K
      obtain ⟨⟨a0, a1, a2, a3, a4⟩, ⟨x0, x1, x2, x3, x4, x5⟩, q0, q1, q2, q3, q4⟩ := FC.out w21 h21
      go_wp2_with fail
      clear a0 a1 a2 a3 a4 x0 x1 x2 x3 x4 x5 q0 q1 q2 q3 q4
      refine (HK.out).mono ?_
      clear HK
      rintro e w31 ⟨rfl, h⟩
      have h31 := h21.trans h
      have y31 := h
      clear h
      go_upto_if 65 with fail
      go_cut [17] (fun s17 wx => s17 = .bool AG ∧ w31 = wx)
      case first =>
        by_cases hb0 : BE = 0
        · have bb : (BE != 0) = false := by simp [hb0]
          have bb2 : (BE == 0) = true := by simp [hb0]
          go_wp2_with fail
          go_meet
          exact ⟨rfl, rfl⟩
        · have bb : (BE != 0) = true := by simpa using hb0
          have bb2 : (BE == 0) = false := by simpa using hb0
          have HAG : Hid (AG = false) := by unfold Hid; rw [← HR2.out, decide_eq_false hb0]; rfl
          go_wp2_with fail
          go_meet
          exact ⟨by rw [HAG.out], rfl⟩
      case rest =>
        obtain ⟨rfl, hwc⟩ := hcut
        subst hwc
        have K := refclash_any _ f kn c w31 (HX.out w31 h31) HS.out HOK.out HCG.out
        rw [HRE.out] at K
        have HK := hid K
        clear K
        obtain ⟨⟨a0, a1, a2, a3, a4⟩, ⟨x0, x1, x2, x3, x4, x5⟩, q0, q1, q2, q3, q4⟩ := FC.out w31 h31
        go_wp2_with fail
        clear a0 a1 a2 a3 a4 x0 x1 x2 x3 x4 x5 q0 q1 q2 q3 q4
        refine (HK.out).mono ?_
        clear HK
        rintro e w32 ⟨r5, rfl, h, A7, k7, rfl, hI7⟩
        have h32 := h31.trans h
        have y32 := y31.trans h
        have HI7 : Hid (∀ w', Ext w32 w' → OwnI w' A7 k7 CL) := fun w' h => by rw [← HR3.out]; exact hI7.ext h
        clear hI7
        clear h
        rw [HR3.out, HRS.out]
        go_upto_if 73 with fail
        go_cut [15, 19] (fun s15 s19 wx => s15 = .int .i64 CE ∧ w32 = wx)
        case first =>
          cases hRs : RS
          · have HC2 : Hid (CE = 6) := by unfold Hid; rw [HCE.out, hRs]; rfl
            clear hRs
            go_wp2_with fail
            go_meet
            exact ⟨by rw [HC2.out], rfl⟩
          · have HC2 : Hid (CE = 0) := by unfold Hid; rw [HCE.out, hRs]; rfl
            clear hRs
            go_wp2_with fail
            go_meet
            exact ⟨by rw [HC2.out], rfl⟩
        case rest =>
          obtain ⟨rfl, hwc⟩ := hcut
          subst hwc
          obtain ⟨BO, hBO⟩ : ∃ BO, blOK f r.bl = BO := ⟨_, rfl⟩
          have HBO := hid hBO
          clear hBO
          obtain ⟨⟨a0, a1, a2, a3, a4⟩, ⟨x0, x1, x2, x3, x4, x5⟩, q0, q1, q2, q3, q4⟩ := FC.out w32 h32
          obtain ⟨v0, v1⟩ := FRN.out w32 h32
          go_upto_region 17 with fail
          go_cut [84] (fun s84 wx => s84 = .bool (!BO) ∧ w32 = wx)
          case first =>
            by_cases c1 : r.bl < 0
            · have HB2 : Hid (BO = false) := by unfold Hid; rw [← HBO.out]; unfold blOK; rw [inB_not]; omega
              go_wp2_with fail
              go_meet
              exact ⟨by rw [HB2.out]; rfl, rfl⟩
            by_cases c2 : (f.bl.length : Int) ≤ r.bl
            · have HB2 : Hid (BO = false) := by unfold Hid; rw [← HBO.out]; unfold blOK; rw [inB_not]; omega
              go_wp2_with fail
              go_meet
              exact ⟨by rw [HB2.out]; rfl, rfl⟩
            · have HB2 : Hid (BO = true) := by unfold Hid; rw [← HBO.out]; unfold blOK; rw [inB_iff]; omega
              go_wp2_with fail
              go_meet
              exact ⟨by rw [HB2.out]; rfl, rfl⟩
          case rest =>
            obtain ⟨rfl, hwc⟩ := hcut
            subst hwc
            obtain ⟨A0, HA0⟩ : ∃ A0 : Int, Hid (A0 = if BO then 0 else 1) := ⟨_, rfl⟩
            obtain ⟨NB, HNB⟩ : ∃ NB : Bool, Hid (NB = !BO) := ⟨_, rfl⟩
            rw [← HNB.out]
            go_upto_if 84 with fail
            go_cut [13] (fun s13 wx => s13 = .int .i64 A0 ∧ w32 = wx)
            case first =>
              cases hnb : NB
              · have HB2 : Hid (A0 = 0) := by
                  have h := HNB.out
                  rw [hnb] at h
                  unfold Hid; rw [HA0.out]
                  cases BO
                  · cases h
                  · rfl
                go_wp2_with fail
                go_meet
                exact ⟨by rw [HB2.out], rfl⟩
              · have HB2 : Hid (A0 = 1) := by
                  have h := HNB.out
                  rw [hnb] at h
                  unfold Hid; rw [HA0.out]
                  cases BO
                  · rfl
                  · cases h
                go_wp2_with fail
                go_meet
                exact ⟨by rw [HB2.out], rfl⟩
            case rest =>
              obtain ⟨rfl, hwc⟩ := hcut
              subst hwc
              obtain ⟨cb, co, A1, c1, A2, c2, hA3, cc0, cc1, hCS, hCR, hck1, hck2⟩ := (HFW.out w32 h32).ct.at_ HCG.out
              rw [hA3] at q4
              have HRR : Hid (∀ w', Ext w32 w' → Reps w' A2 c.rp) := fun w' h => Rows.ext hCR h
              have hr12 := (HS.out.each c HCM.out).2
              clear hCS hCR hck1 hck2 cc0 hA3
              go_wp2_with fail
              clear a0 a1 a2 a3 a4 x0 x1 x2 x3 x4 x5 q0 q1 q2 q3 q4
              clear v0 v1 cc1
              go_loopw [92, 13] (fun i92 i13 wr => ∃ (j : Nat) (A3 : Int), j ≤ c.rp.length ∧ i92 = .int .i64 (j : Int) ∧ i13 = .int .i64 A3 ∧ Hid (A3 = if BO then (if (c.rp.take j).any (fun x => x.bl == r.bl) then 5 else 0) else 1) ∧ Ext w32 wr) (fun i _ _ => c.rp.length - (intOf i).toNat)
              case atStart => exact ⟨0, A0, Nat.zero_le _, rfl, rfl, by unfold Hid; rw [HA0.out]; simp, Ext.refl _⟩
              case round =>
                obtain ⟨j, A3, hj, rfl, rfl, HA3, hx⟩ := hrel
                by_cases hlt : j < c.rp.length
                · have hlt' : (j : Int) < (c.rp.length : Int) := by omega
                  obtain ⟨x, hxj⟩ := get_of_lt c.rp j hlt
                  obtain ⟨xb, xo, eA, g0, g1⟩ := Reps.at_ (HRR.out wr hx) hxj
                  rw [eA]
                  obtain ⟨v0, v1⟩ := FRN.out wr (h32.trans hx)
                  have v0a := fun o => (Ext.alloc (Ext.refl wr) o).cell v0
                  have HNX : Hid ((c.rp.take (j + 1)).any (fun x => x.bl == r.bl) = ((c.rp.take j).any (fun x => x.bl == r.bl) || x.bl == r.bl)) := by
                    unfold Hid
                    rw [take_next hxj, List.any_append]; simp
                  clear hxj eA
                  by_cases hz : A3 = 0
                  · have bz : (A3 == 0) = true := by simp [hz]
                    have HF : Hid (BO = true ∧ (c.rp.take j).any (fun x => x.bl == r.bl) = false) := by
                      have h := HA3.out
                      rw [hz] at h
                      unfold Hid
                      cases BO
                      · simp at h
                      · cases hq : (c.rp.take j).any (fun x => x.bl == r.bl)
                        · exact ⟨rfl, rfl⟩
                        · rw [hq] at h; simp at h
                    by_cases hxb : x.bl = r.bl
                    · have bx : (x.bl == r.bl) = true := by simp [hxb]
                      have HA4 : Hid ((5 : Int) = if BO then (if (c.rp.take (j + 1)).any (fun x => x.bl == r.bl) then 5 else 0) else 1) := by
                        unfold Hid; rw [HNX.out, HF.out.1, HF.out.2, bx]; rfl
                      clear HA3 HNX HF hz hxb
                      go_wp2
                      go_roundw
                      case rel => exact ⟨j + 1, 5, by omega, by go_num, rfl, HA4, hx.alloc _⟩
                      case measure => simp [intOf]; omega
                    · have bx : (x.bl == r.bl) = false := by simpa using hxb
                      have HA4 : Hid (A3 = if BO then (if (c.rp.take (j + 1)).any (fun x => x.bl == r.bl) then 5 else 0) else 1) := by
                        unfold Hid; rw [HNX.out, HF.out.1, HF.out.2, bx, hz]; rfl
                      clear HA3 HNX HF hz hxb
                      go_wp2
                      go_roundw
                      case rel => exact ⟨j + 1, A3, by omega, by go_num, rfl, HA4, hx.alloc _⟩
                      case measure => simp [intOf]; omega
                  · have bz : (A3 == 0) = false := by simpa using hz
                    have HA4 : Hid (A3 = if BO then (if (c.rp.take (j + 1)).any (fun x => x.bl == r.bl) then 5 else 0) else 1) := by
                      have h := HA3.out
                      unfold Hid
                      rw [HNX.out]
                      cases BO
                      · exact h
                      · cases hq : (c.rp.take j).any (fun x => x.bl == r.bl)
                        · rw [hq] at h; exact absurd h (by simpa using hz)
                        · rw [hq] at h; simpa using h
                    clear HA3 HNX hz
                    go_wp2
                    go_roundw
                    case rel => exact ⟨j + 1, A3, by omega, by go_num, rfl, HA4, hx.alloc _⟩
                    case measure => simp [intOf]; omega
                · have hlt' : ¬ (j : Int) < (c.rp.length : Int) := by omega
                  have HAE : Hid (AE = A3) := by
                    have h := HA3.out
                    rw [List.take_of_length_le (by omega)] at h
                    unfold Hid
                    rw [← H_AE.out, h]
                    unfold withE
                    rw [if_neg (fun h => h H_E1.out), HBO.out, HCA.out]
                  have h40 := h32.trans hx
                  have y40 := y32.trans hx
                  have HI40 : Hid (∀ w', Ext wr w' → OwnI w' A7 k7 CL) := fun w' h => HI7.out w' (hx.trans h)
                  clear HA3 HI7 HRR
                  by_cases hz : A3 = 0
                  case neg =>
                    have bz : (A3 == 0) = false := by simpa using hz
                    have HWZ : Hid (WF = zeroF) := by unfold Hid; rw [← H_WF.out]; unfold wantF; rw [H_AE.out, HAE.out, if_neg hz]
                    have HFA : Hid (FogAt wr Bw zeroF) := (FogAt.zero GZ.out).ext y40
                    go_wp2_with fail
                    go_meet
                    exact ⟨by rw [HAE.out], rfl, rfl, rfl, ⟨A7, k7, rfl, (HI40.out wr (Ext.refl _)).ints⟩, by rw [HWZ.out]; exact HFA.out, h40⟩
                  have bz : (A3 == 0) = true := by simp [hz]
                  have HAZ : Hid (AE = 0) := by unfold Hid; rw [HAE.out]; exact hz
                  have HWZ : Hid (WF = withF f (kn : Int) r) := by unfold Hid; rw [← H_WF.out]; unfold wantF; rw [H_AE.out, if_pos HAZ.out]
                  clear hz
                  have K := own_at_ _ f wr (HV.out wr h40) HS.out
                  have HK := hid K
                  clear K
                  obtain ⟨⟨a0, a1, a2, a3, a4⟩, ⟨x0, x1, x2, x3, x4, x5⟩, q0, q1, q2, q3, q4⟩ := FC.out wr h40
                  go_wp2_with fail
                  clear a0 a1 a2 a3 a4 x0 x1 x2 x3 x4 x5 q0 q1 q2 q3 q4
                  refine (HK.out).mono ?_
                  clear HK
                  rintro e w41 ⟨vo, Bo, rfl, h, hBo, ho⟩
                  have h41 := h40.trans h
                  have y41 := y40.trans h
                  have HI41 : Hid (∀ w', Ext w41 w' → OwnI w' A7 k7 CL) := fun w' h' => HI40.out w' (h.trans h')
                  clear h
                  obtain ⟨j1, u1, j2, u2, oD, uD, oxs, rfl, hO1, hO2, hO3, hO4⟩ := ho
                  obtain ⟨jD, rfl⟩ := own_pos hO3 (by omega)
                  unfold fval
                  have GW := hid ((Below.block y41 _ (Array.getElem?_eq_some_iff.1 GZ.out).1).trans GZ.out)
                  have z0 := block_cell (i := 0) GW.out
                  have z1 := block_cell (i := 1) GW.out
                  have z2 := block_cell (i := 2) GW.out
                  have z3 := block_cell (i := 3) GW.out
                  have z4 := block_cell (i := 4) GW.out
                  simp only [List.getElem?_toArray, List.getElem?_cons_zero, List.getElem?_cons_succ] at z0 z1 z2 z3 z4
                  have zf := fun i => blk_free (i := i) GW.out
                  obtain ⟨W42, hW42⟩ : ∃ W42, (((((w41.setCell ⟨Bw, 0, none⟩ (.int .i64 f.pl)).setCell ⟨Bw, 1, none⟩ (.int .i64 f.mi)).setCell ⟨Bw, 2, none⟩ (.slice (some ⟨j1, 0, none⟩) f.tr.length u1)).setCell ⟨Bw, 3, none⟩ (.slice (some ⟨j2, 0, none⟩) f.bl.length u2)).setCell ⟨Bw, 4, none⟩ (.slice (some ⟨jD, 0, none⟩) f.ct.length uD)) = W42 := ⟨_, rfl⟩
                  have hS42 : BelS (fun n => n = Bw) w41 W42 := by rw [← hW42]; exact ((((((BelS.refl _ w41).setCell (S := fun n => n = Bw) ⟨Bw, 0, none⟩ _ rfl).setCell (S := fun n => n = Bw) ⟨Bw, 1, none⟩ _ rfl).setCell (S := fun n => n = Bw) ⟨Bw, 2, none⟩ _ rfl).setCell (S := fun n => n = Bw) ⟨Bw, 3, none⟩ _ rfl).setCell (S := fun n => n = Bw) ⟨Bw, 4, none⟩ _ rfl)
                  have h42 : Ext Wn W42 := by rw [← hW42]; exact (((((h41.setCell (by simpa using HBw.out) _).setCell (by simpa using HBw.out) _).setCell (by simpa using HBw.out) _).setCell (by simpa using HBw.out) _).setCell (by simpa using HBw.out) _)
                  have GW2 : Hid (W42.heap[Bw]? = some (.cells #[.int .i64 f.pl, .int .i64 f.mi, .slice (some ⟨j1, 0, none⟩) f.tr.length u1, .slice (some ⟨j2, 0, none⟩) f.bl.length u2, .slice (some ⟨jD, 0, none⟩) f.ct.length uD] 28 (0, 0))) := by
                    have := blk_set (blk_set (blk_set (blk_set (blk_set GW.out (i := 0) (.int .i64 f.pl)) (i := 1) (.int .i64 f.mi)) (i := 2) (.slice (some ⟨j1, 0, none⟩) f.tr.length u1)) (i := 3) (.slice (some ⟨j2, 0, none⟩) f.bl.length u2)) (i := 4) (.slice (some ⟨jD, 0, none⟩) f.ct.length uD)
                    unfold Hid; rw [← hW42]; simpa using this
                  have HGT : Hid (∃ cs T, w41.heap[Bw]? = some (.cells cs T (0, 0)) ∧ T = 28) := ⟨_, _, GW.out, rfl⟩
                  have P1 := hid (hS42.own hO1 (fun g hg e => by subst e; exact own_ne hO1 GW.out (by decide) hg))
                  have P2 := hid (hS42.own hO2 (fun g hg e => by subst e; exact own_ne hO2 GW.out (by decide) hg))
                  have P3 := hid (hS42.own hO3 (fun g hg e => by subst e; exact own_ne hO3 GW.out (by decide) hg))
                  have P4 := hid (OCt.keep hS42 (fun g hg => by subst hg; exact ⟨_, _, GW.out, by decide, by decide⟩) hO4)
                  have HI42 : Hid (OwnI W42 A7 k7 CL) := hS42.own (HI41.out w41 (Ext.refl _)) (fun g hg e => by subst e; exact own_ne (HI41.out w41 (Ext.refl _)) GW.out (by decide) hg)
                  clear hO1 hO2 hO3 hO4 HGT
                  obtain ⟨AS, qS, AR, qR, hx0, hx1', hOC⟩ := P4.out.get HCG.out
                  have hqr : qR = c.rp.length := by
                    obtain ⟨-, A', q', e, -, hq⟩ := hOC
                    injection e with e1 e2 e3
                    rw [e3]; exact hq rfl
                  subst hqr
                  obtain ⟨N, hN⟩ : ∃ N, c.rp.length = N := ⟨_, rfl⟩
                  have HN := hid hN
                  have HRO : Hid (W42.ownsRow Bo 53 2 (.slice AR N N) N (layRp.rows c.rp)) := by
                    obtain ⟨-, A', q', e, ho, -⟩ := hOC
                    injection e with e1 e2 e3
                    subst e1
                    rw [← e3, hN] at ho
                    exact ho
                  have hn11 : N ≤ 1000 := by omega
                  have hcell := fun j u (hj : oxs[j]? = some u) => (P3.out.cellAt j (by have := (List.getElem?_eq_some_iff.1 hj).1; have h2 := own_len P3.out; omega)).trans hj
                  have k1 := hcell _ _ hx1'
                  rw [hN] at k1
                  have k2 : W42.cell? ⟨Bw, 4, none⟩ = some (.slice (some ⟨jD, 0, none⟩) f.ct.length uD) := by rw [block_cell GW2.out]; rfl
                  have FZ : Hid (∀ w', Ext W42 w' → w'.cell? ⟨Bw, 4, none⟩ = some (.slice (some ⟨jD, 0, none⟩) f.ct.length uD) ∧ w'.cell? ⟨jD, kn * 2 + 1, none⟩ = some (.slice AR N N) ∧ w'.cell? ⟨w.heap.size + 1, 0, none⟩ = some (.int .i64 r.bl) ∧ w'.cell? ⟨w.heap.size + 1, 1, none⟩ = some (.bool r.hd)) := fun w' h => ⟨h.cell k2, h.cell k1, FRN.out w' (h42.trans h)⟩
                  clear k1 k2 hOC hx0 hcell hN
                  go_upto_region 27 with fail
                  try rw [hW42]
                  clear hW42 z0 z1 z2 z3 z4 zf
                  refine wp_region_shut_tail Ext (fun w' => Ext W42 w') (fun
                    | 10 => some (fun v w' => ∃ B, v = .slice (some ⟨B, 0, none⟩) 1 1 ∧ Rd w' (some ⟨B, 0, none⟩) (layRp.cells r))
                    | 11 => some (fun v w' => ∃ A q, v = .slice A (N + 1) q ∧ w'.ownsRow W42.heap.size 53 2 (.slice A (N + 1) q) (N + 1) (layRp.rows c.rp ++ layRp.cells r))
                    | _ => none) 14 (by kernel_rfl) (by kernel_rfl) (fun _ _ h k => h.trans k) ?hTz (Ext.drew (Ext.refl W42)) ?_
                  case hTz =>
                    intro i R hR
                    match i, hR with
                    | 10, hR => cases hR; exact fun _ _ _ ⟨B, h1, h2⟩ k => ⟨B, h1, h2.ext k⟩
                    | 11, hR => cases hR; exact fun _ _ _ ⟨A, q, h1, h2⟩ k => ⟨A, q, h1, own_below h2 k⟩
                  refine wM_val ?uz0 rfl rfl Ext.refl (fun w' hD => ?hz0) (fun phz0 => ?nz0)
                  case hz0 =>
                    obtain ⟨d0, d1, d2, d3⟩ := FZ.out w' hD.1
                    go_simp; rfl
                  simp only [Act.put, List.setIfInBounds_toArray, List.set_cons_succ, List.set_cons_zero, Nat.reduceAdd]
                  refine wM_val ?uz1 rfl rfl Ext.refl (fun w' hD => ?hz1) (fun phz1 => ?nz1)
                  case hz1 =>
                    obtain ⟨d0, d1, d2, d3⟩ := FZ.out w' hD.1
                    go_simp; rfl
                  simp only [Act.put, List.setIfInBounds_toArray, List.set_cons_succ, List.set_cons_zero, Nat.reduceAdd]
                  refine wM_val ?uz2 rfl rfl Ext.refl (fun w' hD => ?hz2) (fun phz2 => ?nz2)
                  case hz2 =>
                    obtain ⟨d0, d1, d2, d3⟩ := FZ.out w' hD.1
                    go_simp; rfl
                  simp only [Act.put, List.setIfInBounds_toArray, List.set_cons_succ, List.set_cons_zero, Nat.reduceAdd]
                  refine wM_val ?uz3 rfl rfl Ext.refl (fun w' hD => ?hz3) (fun phz3 => ?nz3)
                  case hz3 =>
                    obtain ⟨d0, d1, d2, d3⟩ := FZ.out w' hD.1
                    go_simp; rfl
                  simp only [Act.put, List.setIfInBounds_toArray, List.set_cons_succ, List.set_cons_zero, Nat.reduceAdd]
                  refine wM_val ?uz4 rfl rfl Ext.refl (fun w' hD => ?hz4) (fun phz4 => ?nz4)
                  case hz4 =>
                    obtain ⟨d0, d1, d2, d3⟩ := FZ.out w' hD.1
                    go_simp; rfl
                  simp only [Act.put, List.setIfInBounds_toArray, List.set_cons_succ, List.set_cons_zero, Nat.reduceAdd]
                  refine wM_val ?uz5 rfl rfl Ext.refl (fun w' hD => ?hz5) (fun phz5 => ?nz5)
                  case hz5 =>
                    obtain ⟨d0, d1, d2, d3⟩ := FZ.out w' hD.1
                    go_simp; rfl
                  simp only [Act.put, List.setIfInBounds_toArray, List.set_cons_succ, List.set_cons_zero, Nat.reduceAdd]
                  refine wM_val ?uz6 rfl rfl Ext.refl (fun w' hD => ?hz6) (fun phz6 => ?nz6)
                  case hz6 =>
                    obtain ⟨d0, d1, d2, d3⟩ := FZ.out w' hD.1
                    go_simp; rfl
                  simp only [Act.put, List.setIfInBounds_toArray, List.set_cons_succ, List.set_cons_zero, Nat.reduceAdd]
                  refine wM_val ?uz7 rfl rfl Ext.refl (fun w' hD => ?hz7) (fun phz7 => ?nz7)
                  case hz7 =>
                    obtain ⟨d0, d1, d2, d3⟩ := FZ.out w' hD.1
                    go_simp; rfl
                  simp only [Act.put, List.setIfInBounds_toArray, List.set_cons_succ, List.set_cons_zero, Nat.reduceAdd]
                  refine wM_val ?uz8 rfl rfl Ext.refl (fun w' hD => ?hz8) (fun phz8 => ?nz8)
                  case hz8 =>
                    obtain ⟨d0, d1, d2, d3⟩ := FZ.out w' hD.1
                    go_simp; rfl
                  simp only [Act.put, List.setIfInBounds_toArray, List.set_cons_succ, List.set_cons_zero, Nat.reduceAdd]
                  refine wM_val ?uz9 rfl rfl Ext.refl (fun w' hD => ?hz9) (fun phz9 => ?nz9)
                  case hz9 =>
                    obtain ⟨d0, d1, d2, d3⟩ := FZ.out w' hD.1
                    go_simp; rfl
                  simp only [Act.put, List.setIfInBounds_toArray, List.set_cons_succ, List.set_cons_zero, Nat.reduceAdd]
                  refine wM_op _ rfl rfl (opens_val (fun w' hD => ?hz10)) (fun v10 hv10 => ?nz10)
                  case hz10 =>
                    refine ⟨.slice (some ⟨w'.heap.size, 0, none⟩) 1 1, w'.alloc (.cells #[.int .i64 r.bl, .bool r.hd] 53), ?_, Ext.alloc (Ext.refl _) _, ⟨w'.heap.size, rfl, rd_new w' (layRp.cells r) _ _ rfl⟩⟩
                    go_simp
                  obtain ⟨_, _, _, B10, rfl, -⟩ := hv10
                  simp only [Act.put, List.setIfInBounds_toArray, List.set_cons_succ, List.set_cons_zero, Nat.reduceAdd]
                  refine wM_op _ rfl rfl (opens_val (fun w' hD => ?hz11)) (fun v11 hv11 => ?nz11)
                  case hz11 =>
                    obtain ⟨_, B10', e10, hr10⟩ := hD.get 10 (by first | kernel_rfl | simp [Region.binds])
                    cases e10
                    obtain ⟨A', q, w2, hrun, ho, hxx⟩ := append_rep w' _ (own_below HRO.out hD.1) hn11 r B10 hr10
                    refine ⟨.slice A' (N + 1) q, w2, exec_append w' _ (.tmp 118) (.tmp 120) 60 ?_ _ _ ?_ ?_ _ _ hrun, hxx, A', q, rfl, own_base ho hD.1.size⟩
                    · rfl
                    · rfl
                    · rfl
                  obtain ⟨_, _, _, A11, q11, rfl, -⟩ := hv11
                  simp only [Act.put, List.setIfInBounds_toArray, List.set_cons_succ, List.set_cons_zero, Nat.reduceAdd]
                  refine wM_val ?uz12 rfl rfl Ext.refl (fun w' hD => ?hz12) (fun phz12 => ?nz12)
                  case hz12 =>
                    obtain ⟨d0, d1, d2, d3⟩ := FZ.out w' hD.1
                    go_simp; rfl
                  simp only [Act.put, List.setIfInBounds_toArray, List.set_cons_succ, List.set_cons_zero, Nat.reduceAdd]
                  refine wM_val ?uz13 rfl rfl Ext.refl (fun w' hD => ?hz13) (fun phz13 => ?nz13)
                  case hz13 =>
                    obtain ⟨d0, d1, d2, d3⟩ := FZ.out w' hD.1
                    go_simp; rfl
                  simp only [Act.put, List.setIfInBounds_toArray, List.set_cons_succ, List.set_cons_zero, Nat.reduceAdd]
                  refine wM_nil ?_
                  intro w9 hw9 hF9
                  obtain ⟨-, A11', q11', e11, ho11⟩ := hF9 11
                  cases e11
                  clear hF9
                  simp only [List.drop_succ_cons, List.drop_zero]
                  have Q1 := hid (own_below P1.out hw9)
                  have Q2 := hid (own_below P2.out hw9)
                  have Q3 := hid (own_below P3.out hw9)
                  have Q4 := hid (P4.out.ext hw9)
                  have GW9 := hid ((Below.block hw9 _ (Array.getElem?_eq_some_iff.1 GW2.out).1).trans GW2.out)
                  have HO11 := hid ho11
                  have hkc : kn * 2 + 1 < f.ct.length * 2 := by omega
                  have k1 := Q3.out.cellAt (kn * 2 + 1) hkc
                  rw [hx1'] at k1
                  have kf := Q3.out.frozenAt (kn * 2 + 1)
                  have HI9 := hid (HI42.out.ext hw9)
                  have hjD : Wn.heap.size ≤ jD := by have h1 := (Q3.out.lt jD rfl).1; have h2 := h40.size; omega
                  have h43 : Ext Wn (w9.setCell ⟨jD, kn * 2 + 1, none⟩ (.slice A11 (N + 1) q11)) := (h42.trans hw9).setCell (by simpa using hjD) _
                  obtain ⟨W43, hW43⟩ : ∃ W43, w9.setCell ⟨jD, kn * 2 + 1, none⟩ (.slice A11 (N + 1) q11) = W43 := ⟨_, rfl⟩
                  rw [hW43] at h43
                  have hS43 : BelS (fun n => n = jD) w9 W43 := by rw [← hW43]; exact (BelS.refl _ w9).setCell (S := fun n => n = jD) ⟨jD, kn * 2 + 1, none⟩ _ rfl
                  obtain ⟨curD, hgD⟩ := own_blk Q3.out (show (Value.slice (some ⟨jD, 0, none⟩) f.ct.length uD).ownBlock = some jD from rfl)
                  have HFA : Hid (FogAt W43 Bw WF) := by
                    have hne : Bw ≠ jD := fun e => own_ne Q3.out GW9.out (by decide) (by rw [e]; rfl)
                    have G43 := hS43.heap GW9.out hne
                    have z0 := block_cell (i := 0) G43
                    have z1 := block_cell (i := 1) G43
                    have z2 := block_cell (i := 2) G43
                    have z3 := block_cell (i := 3) G43
                    have z4 := block_cell (i := 4) G43
                    simp only [List.getElem?_toArray, List.getElem?_cons_zero, List.getElem?_cons_succ] at z0 z1 z2 z3 z4
                    have R1 := hS43.own Q1.out (fun g hg e => by subst e; exact own_ne Q1.out hgD (by decide) hg)
                    have R2 := hS43.own Q2.out (fun g hg e => by subst e; exact own_ne Q2.out hgD (by decide) hg)
                    have R4 := OCt.keep hS43 (fun g hg => by subst hg; exact ⟨_, _, hgD, by decide, by decide⟩) Q4.out
                    have R5 := hS43.own HO11.out (fun g hg e => by subst e; exact own_ne HO11.out hgD (by decide) hg)
                    have R3 := (Q3.out.stored (kn * 2 + 1) (.slice A11 (N + 1) q11)).1
                    rw [hW43] at R3
                    have hRp : Reps W43 A11 (c.rp ++ [r]) := by
                      have h := Rd.of_own R5
                      show Rd W43 A11 (layRp.rows (c.rp ++ [r]))
                      rw [layRp.rows_app, layRp.rows_single]; exact h
                    have hset := R4.set_rep (c' := q11) (by exact hRp) (by rw [HN.out]; exact own_cap R5) HCG.out
                    rw [HN.out] at hset
                    have hlen : (withF f (kn : Int) r).ct.length = f.ct.length := by simp [withF]
                    unfold Hid
                    rw [HWZ.out]
                    refine ⟨_, _, _, _, _, _, ⟨z0, z1, z2, z3, by rw [hlen]; exact z4⟩, some ⟨j1, 0, none⟩, u1, some ⟨j2, 0, none⟩, u2, some ⟨jD, 0, none⟩, uD, rfl, Rd.of_own R1, Rd.of_own R2, ⟨_, Rd.of_own R3, ?_⟩, own_cap R1, own_cap R2, by rw [hlen]; exact own_cap R3⟩
                    unfold withF
                    rw [HCA.out, Int.toNat_natCast]
                    exact hset
                  have HI43 : Hid (OwnI W43 A7 k7 CL) := hS43.own HI9.out (fun g hg e => by subst e; exact own_ne HI9.out hgD (by decide) hg)
                  clear P1 P2 P3 P4 Q1 Q2 Q3 Q4 HO11 GW9 hS43 hgD hS42
                  go_wp2_with fail
                  try rw [hW43]
                  go_meet
                  exact ⟨by rw [HAZ.out, ← HAE.out, HAZ.out], rfl, rfl, rfl, ⟨A7, k7, rfl, HI43.out.ints⟩, HFA.out, h43⟩
    case rest =>
      obtain ⟨rfl, rfl, rfl, rfl, ⟨A7, k7, rfl, hI7⟩, hFA, h50⟩ := hcut
      obtain ⟨w50, hw50⟩ : ∃ w50, w50 = wc := ⟨_, rfl⟩
      subst hw50
      obtain ⟨p1, s1, p2, s2, p3, s3, hFA1, hFA2⟩ := hFA
      have HW : Hid (∀ w', Ext w50 w' → (w'.cell? ⟨Bw, 0, none⟩ = some (.int .i64 WF.pl) ∧ w'.cell? ⟨Bw, 1, none⟩ = some (.int .i64 WF.mi) ∧ w'.cell? ⟨Bw, 2, none⟩ = some (.slice p1 WF.tr.length s1) ∧ w'.cell? ⟨Bw, 3, none⟩ = some (.slice p2 WF.bl.length s2) ∧ w'.cell? ⟨Bw, 4, none⟩ = some (.slice p3 WF.ct.length s3)) ∧ FgR w' (.agg #[.int .i64 WF.pl, .int .i64 WF.mi, .slice p1 WF.tr.length s1, .slice p2 WF.bl.length s2, .slice p3 WF.ct.length s3]) WF) := fun w' h => ⟨⟨h.cell hFA1.1, h.cell hFA1.2.1, h.cell hFA1.2.2.1, h.cell hFA1.2.2.2.1, h.cell hFA1.2.2.2.2⟩, hFA2.ext h⟩
      have HI7 : Hid (∀ w', Ext w50 w' → Ints w' A7 CL) := fun w' h => hI7.ext h
      clear hFA1 hFA2 hI7 GZ h21
      have K := with_any _ f k r w50 (HO.out w50 h50) HS.out
      have HK := hid K
      clear K
      obtain ⟨⟨a0, a1, a2, a3, a4⟩, ⟨x0, x1, x2, x3, x4, x5⟩, q0, q1, q2, q3, q4⟩ := FC.out w50 h50
      obtain ⟨v0, v1⟩ := FRN.out w50 h50
      unfold Rp.val at HK
      go_wp2_with fail
      clear a0 a1 a2 a3 a4 x0 x1 x2 x3 x4 x5 q0 q1 q2 q3 q4
      clear v0 v1
      refine HK.out.mono ?_
      clear HK
      rintro e w51 hP
      obtain ⟨vw, rfl, x51, hwf⟩ := hP.all
      clear hP
      rw [H_AE.out]
      rw [H_WF.out] at hwf
      obtain ⟨o1, m1, o2, m2, oD, mD, oxs, rfl, O1, O2, O3, O4⟩ := hwf
      unfold fval
      obtain ⟨B0, hB0⟩ : ∃ B0, w50.heap.size = B0 := ⟨_, rfl⟩
      rw [hB0] at O1 O2 O3 O4
      have HB0 := hid hB0
      clear hB0
      have h51 := h50.trans x51
      obtain ⟨Bq, hBq⟩ : ∃ Bq, w51.heap.size = Bq := ⟨_, rfl⟩
      obtain ⟨W52, hW52⟩ : ∃ W52, w51.alloc (.cells #[.int .i64 WF.pl, .int .i64 WF.mi, .slice o1 WF.tr.length m1, .slice o2 WF.bl.length m2, .slice oD WF.ct.length mD] 28) = W52 := ⟨_, rfl⟩
      have hy52 : Ext w51 W52 := by rw [← hW52]; exact Ext.alloc (Ext.refl _) _
      have GQ : Hid (W52.heap[Bq]? = some (.cells #[.int .i64 WF.pl, .int .i64 WF.mi, .slice o1 WF.tr.length m1, .slice o2 WF.bl.length m2, .slice oD WF.ct.length mD] 28 (0, 0))) := by unfold Hid; rw [← hW52, ← hBq]; exact heap_alloc_new w51 _
      have h52 := h51.trans hy52
      have x52 := x51.trans hy52
      have HOO : Hid (∀ w', Ext W52 w' → WithF w' B0 (.agg #[.int .i64 WF.pl, .int .i64 WF.mi, .slice o1 WF.tr.length m1, .slice o2 WF.bl.length m2, .slice oD WF.ct.length mD]) WF) := fun w' h => ⟨o1, m1, o2, m2, oD, mD, oxs, rfl, own_below O1 (hy52.trans h), own_below O2 (hy52.trans h), own_below O3 (hy52.trans h), O4.ext (hy52.trans h)⟩
      have HO1 : Hid (∀ w', Ext W52 w' → OwnX w' B0 68 2 o1 WF.tr.length m1) := fun w' h => ⟨_, own_below O1 (hy52.trans h)⟩
      have HO2 : Hid (∀ w', Ext W52 w' → OwnX w' B0 124 3 o2 WF.bl.length m2) := fun w' h => ⟨_, own_below O2 (hy52.trans h)⟩
      have HO3 : Hid (∀ w', Ext W52 w' → w'.ownsRow B0 62 2 (.slice oD WF.ct.length mD) WF.ct.length oxs) := fun w' h => own_below O3 (hy52.trans h)
      have HO4 : Hid (∀ w', Ext W52 w' → OCt false w' B0 oxs WF.ct) := fun w' h => O4.ext (hy52.trans h)
      clear O1 O2 O3 O4 hy52 h51 x51
      have HE1 := hid hBq
      have HE2 := hid hW52
      clear hBq hW52
      go_upto_region 29 with fail
      try rw [HE2.out]
      try rw [HE1.out]
      clear HE1 HE2
      have K := agree_any _ f k (some ⟨gd, 0, none⟩) kd l W52 (HO.out W52 h52) HS.out (HMM.out W52 h52) (by omega) HKD.out
      rw [H_AG.out, H_BE.out] at K
      have HK := hid K
      clear K
      obtain ⟨⟨a0, a1, a2, a3, a4⟩, ⟨x0, x1, x2, x3, x4, x5⟩, q0, q1, q2, q3, q4⟩ := FC.out W52 h52
      go_wp2_with fail
      clear a0 a1 a2 a3 a4 x0 x1 x2 x3 x4 x5 q0 q1 q2 q3 q4
      refine (HK.out).mono ?_
      clear HK
      rintro e w53 ⟨rfl, h⟩
      have h53 := h52.trans h
      have x53 := x52.trans h
      have y53 := h
      clear h
      have K := clashx_any _ f k w53 (HO.out w53 h53) HS.out
      have HK := hid K
      clear K
      obtain ⟨⟨a0, a1, a2, a3, a4⟩, ⟨x0, x1, x2, x3, x4, x5⟩, q0, q1, q2, q3, q4⟩ := FC.out w53 h53
      go_wp2_with fail
      clear a0 a1 a2 a3 a4 x0 x1 x2 x3 x4 x5 q0 q1 q2 q3 q4
      refine (HK.out).mono ?_
      clear HK
      rintro e w54 ⟨rr, rfl, h, A8, k8, rfl, hI8⟩
      have h54 := h53.trans h
      have x54 := x53.trans h
      have y54 := y53.trans h
      rw [H_CE.out, H_CL.out]
      rw [H_CL.out] at hI8
      have HI8 : Hid (∀ w', Ext w54 w' → Ints w' A8 CL) := fun w' h' => hI8.ext h'
      clear hI8
      clear h
      have G54 := (Below.block y54 _ (Array.getElem?_eq_some_iff.1 GQ.out).1).trans GQ.out
      have b0 := block_cell (i := 0) G54
      have b1 := block_cell (i := 1) G54
      have b2 := block_cell (i := 2) G54
      have b3 := block_cell (i := 3) G54
      have b4 := block_cell (i := 4) G54
      simp only [List.getElem?_toArray, List.getElem?_cons_zero, List.getElem?_cons_succ] at b0 b1 b2 b3 b4
      obtain ⟨⟨c0, c1, c2, c3, c4⟩, hFW⟩ := HW.out w54 x54
      have K := same_yes (.agg #[.int .i64 WF.pl, .int .i64 WF.mi, .slice o1 WF.tr.length m1, .slice o2 WF.bl.length m2, .slice oD WF.ct.length mD]) (.agg #[.int .i64 WF.pl, .int .i64 WF.mi, .slice p1 WF.tr.length s1, .slice p2 WF.bl.length s2, .slice p3 WF.ct.length s3]) WF w54 ((HOO.out w54 y54).fg) hFW HWS.out
      have HK := hid K
      clear K hFW G54
      go_wp2_with fail
      clear b0 b1 b2 b3 b4 c0 c1 c2 c3 c4
      refine HK.out.mono ?_
      clear HK
      rintro e w55 ⟨rfl, h⟩
      have h55 := h54.trans h
      have x55 := x54.trans h
      have y55 := y54.trans h
      have K := eq_int A8 A7 k8 k7 CL CL w55 (HI8.out w55 h) (HI7.out w55 x55) (by have := HCL.out; omega) (by have := HCL.out; omega)
      rw [beq_self_eq_true] at K
      have HK := hid K
      clear K h
      go_wp2_with fail
      refine HK.out.mono ?_
      clear HK
      rintro e w56 ⟨rfl, h⟩
      have h56 := h55.trans h
      have x56 := x55.trans h
      have y56 := y55.trans h
      clear h HI8
      have hBx : B0 ≤ w56.heap.size := by have h1 := x56.size; have h2 := HB0.out; omega
      obtain ⟨w57, hcl57, hck57⟩ := clear_pair (HO1.out w56 y56)
      obtain ⟨w58, hcl58, hck58⟩ := clear_blast ((HO2.out w56 y56).ck hck57)
      have hnF : ¬ ClrT 28 := by unfold ClrT; decide
      have hnC : ¬ ClrT 62 := by unfold ClrT; decide
      have G56 := (Below.block y56 _ (Array.getElem?_eq_some_iff.1 GQ.out).1).trans GQ.out
      have G57 := hck57.keep G56 hnF
      have G58 := hck58.keep G57 hnF
      have b2 := block_cell (i := 2) G56
      have b3 := block_cell (i := 3) G57
      have b4 := block_cell (i := 4) G58
      simp only [List.getElem?_toArray, List.getElem?_cons_zero, List.getElem?_cons_succ] at b2 b3 b4
      have HCK : Hid (CKf B0 w56 w58) := hck57.trans hck58
      have hBx58 : B0 ≤ w58.heap.size := Nat.le_trans hBx HCK.out.1.size
      have HN1 := hid hnF
      have HN2 := hid hnC
      have HX56 := hid x56
      clear hnF hnC x56
      go_wp2_with fail
      clear b2 b3 b4 hcl57 hcl58 G56 G57 G58 hck57 hck58
      go_loopw [182] (fun i wr => ∃ kk : Nat, kk ≤ WF.ct.length ∧ i = .int .i64 (kk : Int) ∧ CKf B0 w58 wr) (fun i _ => WF.ct.length - (intOf i).toNat)
      case atStart => exact ⟨0, Nat.zero_le _, rfl, CKf.refl _ _⟩
      case round =>
        obtain ⟨kk, hk, rfl, hck⟩ := hrel
        by_cases hlt : kk < WF.ct.length
        · have hlt' : (kk : Int) < (WF.ct.length : Int) := by omega
          obtain ⟨x, hxk⟩ := get_of_lt WF.ct kk hlt
          have hckA := HCK.out.trans hck
          have hrow := own_ckf (HO3.out w56 y56) hckA HN2.out
          obtain ⟨gD, hgD⟩ := own_pos hrow (by omega)
          obtain ⟨A1, n1, A2, n2, i1, i2, hOC⟩ := (HO4.out w56 y56).get hxk
          obtain ⟨⟨A1', n1', e1, hs1⟩, A2', n2', e2, hs2, -⟩ := hOC
          cases e1
          cases e2
          have hcell := fun j u (hj : oxs[j]? = some u) => ((show wr.ownsRow B0 62 2 (.slice (some ⟨gD, 0, none⟩) WF.ct.length mD) WF.ct.length oxs from by rw [← hgD]; exact hrow).cellAt j (by have := (List.getElem?_eq_some_iff.1 hj).1; have h2 := own_len hrow; omega)).trans hj
          have m0 := hcell _ _ i1
          have m1' := hcell _ _ i2
          obtain ⟨Yb, hYb⟩ : ∃ Yb, wr.heap.size = Yb := ⟨_, rfl⟩
          obtain ⟨w67, hW67⟩ : ∃ w67, wr.alloc (.cells #[.slice A1 x.st.length n1, .slice A2 x.rp.length n2] 62) = w67 := ⟨_, rfl⟩
          have hz67 : Ext wr w67 := by rw [← hW67]; exact Ext.alloc (Ext.refl _) _
          have hsr : B0 ≤ wr.heap.size := Nat.le_trans hBx58 hck.1.size
          have hck67 : CKf B0 w58 w67 := hck.trans (CKf.of_ext hz67 hsr)
          have gY : w67.heap[Yb]? = some (.cells #[.slice A1 x.st.length n1, .slice A2 x.rp.length n2] 62 (0, 0)) := by rw [← hW67, ← hYb]; exact heap_alloc_new wr _
          obtain ⟨w68, hcl68, hck68⟩ := clear_int (OwnX.ck ⟨_, hs1⟩ (HCK.out.trans hck67))
          obtain ⟨w69, hcl69, hck69⟩ := clear_rep (OwnX.ck ⟨_, hs2⟩ (HCK.out.trans (hck67.trans hck68)))
          have gY2 := hck68.keep gY HN2.out
          have t0 := block_cell (i := 0) gY
          have t1' := block_cell (i := 1) gY2
          simp only [List.getElem?_toArray, List.getElem?_cons_zero, List.getElem?_cons_succ] at t0 t1'
          have hck69' : CKf B0 w58 w69 := (hck67.trans hck68).trans hck69
          have HJ1 : Hid (kk + 1 ≤ WF.ct.length) := hlt
          have hkb := HWS.out.ct
          rw [hgD]
          clear hgD hcell hrow i1 i2 hxk hs1 hs2 gY gY2 hckA hck68 hck69 hck67
          have HE1 := hid hYb
          have HE2 := hid hW67
          clear hYb hW67
          go_upto_region 38 with fail
          try rw [HE2.out]
          try rw [HE1.out]
          clear HE1 HE2 m0 m1'
          go_wp2
          go_roundw
          case rel => exact ⟨kk + 1, HJ1.out, by go_num, hck69'⟩
          case measure => have := HJ1.out; simp [intOf]; omega
        · have hlt' : ¬ (kk : Int) < (WF.ct.length : Int) := by omega
          have hxE : Ext w50 wr := (HCK.out.trans hck).ext HX56.out (by have := HB0.out; omega)
          have h9 : Ext Wn wr := h50.trans hxE
          clear hck
          have K := same_yes _ _ f wr (HO.out wr h9) (HV.out wr h9) HS.out
          have HK := hid K
          clear K
          obtain ⟨⟨a0, a1, a2, a3, a4⟩, ⟨x0, x1, x2, x3, x4, x5⟩, q0, q1, q2, q3, q4⟩ := FC.out wr h9
          go_wp2_with fail
          clear a0 a1 a2 a3 a4 x0 x1 x2 x3 x4 x5 q0 q1 q2 q3 q4
          refine (HK.out).mono ?_
          clear HK
          rintro e w70 ⟨rfl, h⟩
          have h70 := h9.trans h
          clear h
          have K := eq_int (some ⟨gd, 0, none⟩) AC kd kC l l w70 (HMM.out w70 h70) (HCV.out w70 h70) (by omega) (by omega)
          rw [beq_self_eq_true] at K
          have HK := hid K
          clear K
          go_wp2_with fail
          refine HK.out.mono ?_
          clear HK
          rintro e w71 ⟨rfl, h⟩
          have h71 := h70.trans h
          clear h
          go_wp2_with fail
          refine (awake_any w71).mono ?_
          rintro e w72 ⟨rfl, h⟩
          go_wp2
          go_ret
          exact ⟨rfl, HXN.out.trans (h71.trans h)⟩
end Go.Proofs.YtpbpcplboikpcaaGreat
