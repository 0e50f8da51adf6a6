/- The walk of FogChecks: the law says true of every fog. Printed by my gen_fchecks.py. -/
import Derived.Test.YtpbpcplboikpcaaGreatG7
import Derived.Test.YtpbpcplboikpcaaGreatG6
import Derived.Test.YtpbpcplboikpcaaGreatG5
import Derived.Test.YtpbpcplboikpcaaGreatG8
import Derived.Laws.StructEq
import Derived.Deep.DeepCutAuto
import Derived.Deep.CutBlock
namespace Go.Proofs.YtpbpcplboikpcaaGreat
open Go Go.RowKit Go.Shelf
set_option linter.unusedVariables false
set_option linter.unusedSimpArgs false

/-- What Own hands back, with the value's parts. -/
def OwnV (w : World) (f : Fg) (v : Value) : Prop := ∃ g1 k1 g2 k2 D3 k3, v = .agg #[.int .i64 f.pl, .int .i64 f.mi, .slice (some ⟨g1, 0, none⟩) f.tr.length k1, .slice (some ⟨g2, 0, none⟩) f.bl.length k2, .slice D3 f.ct.length k3] ∧ OwnF w (.agg #[.int .i64 f.pl, .int .i64 f.mi, .slice (some ⟨g1, 0, none⟩) f.tr.length k1, .slice (some ⟨g2, 0, none⟩) f.bl.length k2, .slice D3 f.ct.length k3]) f
theorem own_cells {w : World} {f : Fg} {v : Value} (h : OwnF w v f) : OwnV w f v := by
  have h' := h
  obtain ⟨B, g1, q1, g2, q2, D, kd, xs, rfl, -⟩ := h
  exact ⟨g1, q1, g2, q2, D, kd, rfl, h'⟩
/-- What theirs hands back, with the value's parts. -/
def TheirsV (w : World) (f : Fg) (v : Value) : Prop := ∃ a5 q5 b5 r5 c5 t5 A5 n5 k5, v = .agg #[.int .i64 f.pl, .int .i64 f.mi, .slice a5 f.tr.length q5, .slice b5 f.bl.length r5, .slice c5 f.ct.length t5, .slice A5 n5 k5] ∧ ∃ d, TheirsF w (.agg #[.int .i64 f.pl, .int .i64 f.mi, .slice a5 f.tr.length q5, .slice b5 f.bl.length r5, .slice c5 f.ct.length t5, .slice A5 n5 k5]) f d ∧ (checkF f = 0 → d = distL f)
theorem theirs_cells {w : World} {f : Fg} {v : Value} {d : List (List Int)} (h : TheirsF w v f d) (hd : checkF f = 0 → d = distL f) : TheirsV w f v := by
  have h' := h
  obtain ⟨B, s, A, k, xs, rfl, -⟩ := h
  exact ⟨s.a1, s.c1, s.a2, s.c2, s.a3, s.c3, A, d.length, k, rfl, d, h', hd⟩
theorem OwnV.ext {w w' : World} {f : Fg} {v : Value} (h : OwnV w f v) (hx : Ext w w') : OwnV w' f v := by
  obtain ⟨g1, k1, g2, k2, D3, k3, e, h1⟩ := h
  exact ⟨g1, k1, g2, k2, D3, k3, e, h1.ext hx⟩
theorem TheirsV.ext {w w' : World} {f : Fg} {v : Value} (h : TheirsV w f v) (hx : Ext w w') : TheirsV w' f v := by
  obtain ⟨a5, q5, b5, r5, c5, t5, A5, n5, k5, e, d, h1, h2⟩ := h
  exact ⟨a5, q5, b5, r5, c5, t5, A5, n5, k5, e, d, h1.ext hx, h2⟩
set_option maxRecDepth 100000 in
set_option maxHeartbeats 8000000 in
theorem checksw_any (v : Value) (f : Fg) (a b i : Int) (w : World) (hf : FgR w v f) (hl : f.ct.length ≤ 9223372036854775807) :
    Calls Tryz.prog 3 #[v, .int .i64 a, .int .i64 b, .int .i64 i] w fun e w' => e = .returned (.bool true) ∧ Ext w w' := by
  obtain ⟨s, rfl, hr⟩ := hf.rows
  obtain ⟨W0, hW0⟩ : ∃ W0, w.alloc (.cells #[.int .i64 f.pl, .int .i64 f.mi, .slice s.a1 f.tr.length s.c1, .slice s.a2 f.bl.length s.c2, .slice s.a3 f.ct.length s.c3] 28) = W0 := ⟨_, rfl⟩
  have hx0 : Ext w W0 := by rw [← hW0]; exact Ext.alloc (Ext.refl w) _
  have FX : Hid (∀ w', Ext W0 w' → w'.cell? ⟨w.heap.size, 0, none⟩ = some (.int .i64 f.pl) ∧ w'.cell? ⟨w.heap.size, 1, none⟩ = some (.int .i64 f.mi) ∧ w'.cell? ⟨w.heap.size, 2, none⟩ = some (.slice s.a1 f.tr.length s.c1) ∧ w'.cell? ⟨w.heap.size, 3, none⟩ = some (.slice s.a2 f.bl.length s.c2) ∧ w'.cell? ⟨w.heap.size, 4, none⟩ = some (.slice s.a3 f.ct.length s.c3)) := fun w' h => ⟨h.cell (by rw [← hW0]; simp [go_sem]), h.cell (by rw [← hW0]; simp [go_sem]), h.cell (by rw [← hW0]; simp [go_sem]), h.cell (by rw [← hW0]; simp [go_sem]), h.cell (by rw [← hW0]; simp [go_sem])⟩
  obtain ⟨q0, q1, q2, q3, q4⟩ := FX.out W0 (Ext.refl _)
  have K1 := great_any (s.val f) f W0 (hf.ext hx0) hl
  obtain ⟨GR, hGR⟩ : ∃ GR, greatF f = GR := ⟨_, rfl⟩
  rw [hGR] at K1
  have HGR := hid hGR
  have HF0 := hid hf
  clear hf
  unfold Ads.val fval
  unfold Ads.val fval at K1
  go_enter Tryz.func3, Tryz.ntmps3
  go_wp2_with fail
  try rw [hW0]
  clear hW0 q0 q1 q2 q3 q4
  refine K1.mono ?_
  clear K1
  rintro e w1 ⟨rfl, hb1⟩
  have hx1 := hx0.trans hb1
  clear hGR
  cases GR
  case true =>
    go_wp2_with fail
    refine (awake_any w1).mono ?_
    rintro e w2 ⟨rfl, hb2⟩
    go_wp2
    go_ret
    exact ⟨rfl, hx1.trans hb2⟩
  have HS := hid (great_sized HGR.out)
  have HF : Hid (∀ w', Ext w1 w' → FgR w' (.agg #[.int .i64 f.pl, .int .i64 f.mi, .slice s.a1 f.tr.length s.c1, .slice s.a2 f.bl.length s.c2, .slice s.a3 f.ct.length s.c3]) f) := fun w' h => HF0.out.ext (hx1.trans h)
  clear HGR hl hr HF0
  go_wp2
  refine wp_region_shut_tail Ext (fun w' => Ext w1 w') (fun
    | 1 => some (fun v w' => OwnV w' f v)
    | 3 => some (fun v w' => TheirsV w' f v)
    | 4 => some (fun v w' => ∃ B, v = .pointer (some ⟨B, 0, none⟩) ∧ w1.heap.size ≤ B ∧ w'.heap[B]? = some (.cells #[.int .i64 0, .int .i64 0, .slice none 0 0, .slice none 0 0, .slice none 0 0] 28 (0, 0)))
    | 5 => some (fun v w' => ∃ B, v = .pointer (some ⟨B, 0, none⟩) ∧ w1.heap.size ≤ B ∧ w'.heap[B]? = some (.cells #[.int .i64 0, .int .i64 0, .slice none 0 0, .slice none 0 0, .slice none 0 0, .slice none 0 0] 37 (0, 0)))
    | _ => none) 6 (by kernel_rfl) (by kernel_rfl) (fun _ _ h k => h.trans k) ?hT (Ext.drew (Ext.refl w1)) ?_
  case hT =>
    intro i R hR
    match i, hR with
    | 1, hR => cases hR; exact fun _ _ _ h k => h.ext k
    | 3, hR => cases hR; exact fun _ _ _ h k => h.ext k
    | 4, hR => cases hR; exact fun _ _ _ ⟨B, e, h1, h⟩ k => ⟨B, e, h1, (Below.block k B (Array.getElem?_eq_some_iff.1 h).1).trans h⟩
    | 5, hR => cases hR; exact fun _ _ _ ⟨B, e, h1, h⟩ k => ⟨B, e, h1, (Below.block k B (Array.getElem?_eq_some_iff.1 h).1).trans h⟩
  refine wM_val ?ua0 rfl rfl Ext.refl (fun w' hD => ?ha0) (fun pha0 => ?na0)
  case ha0 =>
    obtain ⟨d0, d1, d2, d3, d4⟩ := FX.out _ (hb1.trans hD.1)
    go_simp; rfl
  simp only [Act.put, List.setIfInBounds_toArray, List.set_cons_succ, List.set_cons_zero, Nat.reduceAdd]
  refine wM_op _ rfl rfl (opens_call ?fa1 ?ga1 (fun w' hD => ?ha1) (fun w' hD => ?ca1)) (fun v1 hv1 => ?na1)
  case ha1 => go_simp; constructor <;> rfl
  case ca1 =>
    refine (own_any _ f w' (HF.out w' hD.1) HS.out).mono ?_
    rintro e w2 ⟨v, rfl, hb, ho⟩
    exact ⟨_, rfl, hb, own_cells ho⟩
  obtain ⟨_, -, -, g1, k1, g2, k2, D3, k3, rfl, -⟩ := hv1
  simp only [Act.put, List.setIfInBounds_toArray, List.set_cons_succ, List.set_cons_zero, Nat.reduceAdd]
  refine wM_val ?ua2 rfl rfl Ext.refl (fun w' hD => ?ha2) (fun pha2 => ?na2)
  case ha2 =>
    obtain ⟨d0, d1, d2, d3, d4⟩ := FX.out _ (hb1.trans hD.1)
    go_simp; rfl
  simp only [Act.put, List.setIfInBounds_toArray, List.set_cons_succ, List.set_cons_zero, Nat.reduceAdd]
  refine wM_op _ rfl rfl (opens_call ?fa3 ?ga3 (fun w' hD => ?ha3) (fun w' hD => ?ca3)) (fun v3 hv3 => ?na3)
  case ha3 => go_simp; constructor <;> rfl
  case ca3 =>
    refine (theirs_any _ f w' (HF.out w' hD.1) HS.out).mono ?_
    rintro e w2 ⟨v, d, rfl, hb, ho, hd⟩
    exact ⟨_, rfl, hb, theirs_cells ho hd⟩
  obtain ⟨_, -, -, a5, q5, b5, r5, c5, t5, A5, n5, k5, rfl, -⟩ := hv3
  simp only [Act.put, List.setIfInBounds_toArray, List.set_cons_succ, List.set_cons_zero, Nat.reduceAdd]
  refine wM_op _ rfl rfl (opens_val (fun w' hD => ?hm4)) (fun va4 hva4 => ?nm4)
  case hm4 =>
    refine ⟨.pointer (some ⟨w'.heap.size, 0, none⟩), w'.alloc (.cells #[.int .i64 0, .int .i64 0, .slice none 0 0, .slice none 0 0, .slice none 0 0] 28), ?_, Ext.alloc (Ext.refl _) _, w'.heap.size, rfl, hD.1.size, World.alloc_heap_new _ _⟩
    go_simp
  obtain ⟨_, -, -, Ba, rfl, -⟩ := hva4
  simp only [Act.put, List.setIfInBounds_toArray, List.set_cons_succ, List.set_cons_zero, Nat.reduceAdd]
  refine wM_op _ rfl rfl (opens_val (fun w' hD => ?hm5)) (fun va5 hva5 => ?nm5)
  case hm5 =>
    refine ⟨.pointer (some ⟨w'.heap.size, 0, none⟩), w'.alloc (.cells #[.int .i64 0, .int .i64 0, .slice none 0 0, .slice none 0 0, .slice none 0 0, .slice none 0 0] 37), ?_, Ext.alloc (Ext.refl _) _, w'.heap.size, rfl, hD.1.size, World.alloc_heap_new _ _⟩
    go_simp
  obtain ⟨_, -, -, Bb, rfl, -⟩ := hva5
  simp only [Act.put, List.setIfInBounds_toArray, List.set_cons_succ, List.set_cons_zero, Nat.reduceAdd]
  refine wM_nil ?_
  intro w9 hw9 hF9
  obtain ⟨-, g1', k1', g2', k2', D3', k3', e1, ho1⟩ := hF9 1
  cases e1
  obtain ⟨-, a5', q5', b5', r5', c5', t5', A5', n5', k5', e5, d, ho5, hd5⟩ := hF9 3
  cases e5
  obtain ⟨-, Ba', e6, hBa, GA⟩ := hF9 4
  cases e6
  obtain ⟨-, Bb', e7, hBb, GB⟩ := hF9 5
  cases e7
  clear hF9
  have hab : Ba ≠ Bb := fun e => by
    rw [e, GB] at GA
    injection GA with e1
    injection e1 with _ e2 _
    exact absurd e2 (by decide)
  have hba : Bb ≠ Ba := fun e => hab e.symm
  have hFB : FogB w9 (fun n => n = Ba ∨ n = Bb) := fun n hn => by
    rcases hn with e | e
    · exact ⟨_, _, by rw [e]; exact GA, by decide, by decide, by decide, by decide, by decide⟩
    · exact ⟨_, _, by rw [e]; exact GB, by decide, by decide, by decide, by decide, by decide⟩
  have hRB : RefB w9 (fun n => n = Ba ∨ n = Bb) := fun n hn => by
    rcases hn with e | e
    · exact ⟨_, _, by rw [e]; exact GA, by decide, by decide, by decide, by decide, by decide, by decide⟩
    · exact ⟨_, _, by rw [e]; exact GB, by decide, by decide, by decide, by decide, by decide, by decide⟩
  obtain ⟨Wn, hWn⟩ : ∃ Wn, (((((((((((w9.setCell ⟨Ba, 0, none⟩ (.int .i64 f.pl)).setCell ⟨Ba, 1, none⟩ (.int .i64 f.mi)).setCell ⟨Ba, 2, none⟩ (.slice (some ⟨g1, 0, none⟩) f.tr.length k1)).setCell ⟨Ba, 3, none⟩ (.slice (some ⟨g2, 0, none⟩) f.bl.length k2)).setCell ⟨Ba, 4, none⟩ (.slice D3 f.ct.length k3)).setCell ⟨Bb, 0, none⟩ (.int .i64 f.pl)).setCell ⟨Bb, 1, none⟩ (.int .i64 f.mi)).setCell ⟨Bb, 2, none⟩ (.slice a5 f.tr.length q5)).setCell ⟨Bb, 3, none⟩ (.slice b5 f.bl.length r5)).setCell ⟨Bb, 4, none⟩ (.slice c5 f.ct.length t5)).setCell ⟨Bb, 5, none⟩ (.slice A5 n5 k5)) = Wn := ⟨_, rfl⟩
  have hbn : BelS (fun n => n = Ba ∨ n = Bb) w9 Wn := by
    rw [← hWn]
    exact ((((((((((((BelS.refl _ w9).setCell (S := fun n => n = Ba ∨ n = Bb) ⟨Ba, 0, none⟩ _ (.inl rfl)).setCell (S := fun n => n = Ba ∨ n = Bb) ⟨Ba, 1, none⟩ _ (.inl rfl)).setCell (S := fun n => n = Ba ∨ n = Bb) ⟨Ba, 2, none⟩ _ (.inl rfl)).setCell (S := fun n => n = Ba ∨ n = Bb) ⟨Ba, 3, none⟩ _ (.inl rfl)).setCell (S := fun n => n = Ba ∨ n = Bb) ⟨Ba, 4, none⟩ _ (.inl rfl)).setCell (S := fun n => n = Ba ∨ n = Bb) ⟨Bb, 0, none⟩ _ (.inr rfl)).setCell (S := fun n => n = Ba ∨ n = Bb) ⟨Bb, 1, none⟩ _ (.inr rfl)).setCell (S := fun n => n = Ba ∨ n = Bb) ⟨Bb, 2, none⟩ _ (.inr rfl)).setCell (S := fun n => n = Ba ∨ n = Bb) ⟨Bb, 3, none⟩ _ (.inr rfl)).setCell (S := fun n => n = Ba ∨ n = Bb) ⟨Bb, 4, none⟩ _ (.inr rfl)).setCell (S := fun n => n = Ba ∨ n = Bb) ⟨Bb, 5, none⟩ _ (.inr rfl))
  have hx0n : Ext W0 Wn := by
    have h1 : W0.heap.size ≤ Ba := Nat.le_trans hb1.size hBa
    have h2 : W0.heap.size ≤ Bb := Nat.le_trans hb1.size hBb
    rw [← hWn]
    exact ((((((((((((hb1.trans hw9).setCell (by simpa using h1) _).setCell (by simpa using h1) _).setCell (by simpa using h1) _).setCell (by simpa using h1) _).setCell (by simpa using h1) _).setCell (by simpa using h2) _).setCell (by simpa using h2) _).setCell (by simpa using h2) _).setCell (by simpa using h2) _).setCell (by simpa using h2) _).setCell (by simpa using h2) _)
  have hx1n : Ext w1 Wn := by
    rw [← hWn]
    exact (((((((((((hw9.setCell (by simpa using hBa) _).setCell (by simpa using hBa) _).setCell (by simpa using hBa) _).setCell (by simpa using hBa) _).setCell (by simpa using hBa) _).setCell (by simpa using hBb) _).setCell (by simpa using hBb) _).setCell (by simpa using hBb) _).setCell (by simpa using hBb) _).setCell (by simpa using hBb) _).setCell (by simpa using hBb) _)
  have p0 := block_cell (i := 0) GA
  have f0 := blk_free (i := 0) GA
  have p1 := block_cell (i := 1) GA
  have f1 := blk_free (i := 1) GA
  have p2 := block_cell (i := 2) GA
  have f2 := blk_free (i := 2) GA
  have p3 := block_cell (i := 3) GA
  have f3 := blk_free (i := 3) GA
  have p4 := block_cell (i := 4) GA
  have f4 := blk_free (i := 4) GA
  have u0 := block_cell (i := 0) GB
  have v0 := blk_free (i := 0) GB
  have u1 := block_cell (i := 1) GB
  have v1 := blk_free (i := 1) GB
  have u2 := block_cell (i := 2) GB
  have v2 := blk_free (i := 2) GB
  have u3 := block_cell (i := 3) GB
  have v3 := blk_free (i := 3) GB
  have u4 := block_cell (i := 4) GB
  have v4 := blk_free (i := 4) GB
  have u5 := block_cell (i := 5) GB
  have v5 := blk_free (i := 5) GB
  simp only [List.getElem?_toArray, List.getElem?_cons_zero, List.getElem?_cons_succ] at p0 p1 p2 p3 p4 u0 u1 u2 u3 u4 u5
  have FN : Hid ((Wn.cell? ⟨Ba, 0, none⟩ = some (.int .i64 f.pl) ∧ Wn.cell? ⟨Ba, 1, none⟩ = some (.int .i64 f.mi) ∧ Wn.cell? ⟨Ba, 2, none⟩ = some (.slice (some ⟨g1, 0, none⟩) f.tr.length k1) ∧ Wn.cell? ⟨Ba, 3, none⟩ = some (.slice (some ⟨g2, 0, none⟩) f.bl.length k2) ∧ Wn.cell? ⟨Ba, 4, none⟩ = some (.slice D3 f.ct.length k3)) ∧ Wn.cell? ⟨Bb, 0, none⟩ = some (.int .i64 f.pl) ∧ Wn.cell? ⟨Bb, 1, none⟩ = some (.int .i64 f.mi) ∧ Wn.cell? ⟨Bb, 2, none⟩ = some (.slice a5 f.tr.length q5) ∧ Wn.cell? ⟨Bb, 3, none⟩ = some (.slice b5 f.bl.length r5) ∧ Wn.cell? ⟨Bb, 4, none⟩ = some (.slice c5 f.ct.length t5) ∧ Wn.cell? ⟨Bb, 5, none⟩ = some (.slice A5 n5 k5)) := by
    unfold Hid
    rw [← hWn]
    have hab' := hab
    have hba' := hba
    simp [go_sem, p0, p1, p2, p3, p4, u0, u1, u2, u3, u4, u5, hab', hba']
  have HOF : Hid (OwnF Wn (.agg #[.int .i64 f.pl, .int .i64 f.mi, .slice (some ⟨g1, 0, none⟩) f.tr.length k1, .slice (some ⟨g2, 0, none⟩) f.bl.length k2, .slice D3 f.ct.length k3]) f) := ho1.keep hbn hFB
  have HTF : Hid (TheirsF Wn (.agg #[.int .i64 f.pl, .int .i64 f.mi, .slice a5 f.tr.length q5, .slice b5 f.bl.length r5, .slice c5 f.ct.length t5, .slice A5 n5 k5]) f d) := ho5.keep hbn hRB
  have HD5 := hid hd5
  clear ho1 ho5 hbn hFB hRB GA GB hd5
  obtain ⟨⟨a0, a1, a2, a3, a4⟩, x0, x1, x2, x3, x4, x5⟩ := FN.out
  have FC : Hid (∀ w', Ext Wn w' → (w'.cell? ⟨Ba, 0, none⟩ = some (.int .i64 f.pl) ∧ w'.cell? ⟨Ba, 1, none⟩ = some (.int .i64 f.mi) ∧ w'.cell? ⟨Ba, 2, none⟩ = some (.slice (some ⟨g1, 0, none⟩) f.tr.length k1) ∧ w'.cell? ⟨Ba, 3, none⟩ = some (.slice (some ⟨g2, 0, none⟩) f.bl.length k2) ∧ w'.cell? ⟨Ba, 4, none⟩ = some (.slice D3 f.ct.length k3)) ∧ (w'.cell? ⟨Bb, 0, none⟩ = some (.int .i64 f.pl) ∧ w'.cell? ⟨Bb, 1, none⟩ = some (.int .i64 f.mi) ∧ w'.cell? ⟨Bb, 2, none⟩ = some (.slice a5 f.tr.length q5) ∧ w'.cell? ⟨Bb, 3, none⟩ = some (.slice b5 f.bl.length r5) ∧ w'.cell? ⟨Bb, 4, none⟩ = some (.slice c5 f.ct.length t5) ∧ w'.cell? ⟨Bb, 5, none⟩ = some (.slice A5 n5 k5)) ∧ w'.cell? ⟨w.heap.size, 0, none⟩ = some (.int .i64 f.pl) ∧ w'.cell? ⟨w.heap.size, 1, none⟩ = some (.int .i64 f.mi) ∧ w'.cell? ⟨w.heap.size, 2, none⟩ = some (.slice s.a1 f.tr.length s.c1) ∧ w'.cell? ⟨w.heap.size, 3, none⟩ = some (.slice s.a2 f.bl.length s.c2) ∧ w'.cell? ⟨w.heap.size, 4, none⟩ = some (.slice s.a3 f.ct.length s.c3)) := fun w' h => ⟨⟨h.cell a0, h.cell a1, h.cell a2, h.cell a3, h.cell a4⟩, ⟨h.cell x0, h.cell x1, h.cell x2, h.cell x3, h.cell x4, h.cell x5⟩, FX.out w' (hx0n.trans h)⟩
  obtain ⟨-, -, q0, q1, q2, q3, q4⟩ := FC.out Wn (Ext.refl _)
  have HO : Hid (∀ w', Ext Wn w' → FgR w' (.agg #[.int .i64 f.pl, .int .i64 f.mi, .slice (some ⟨g1, 0, none⟩) f.tr.length k1, .slice (some ⟨g2, 0, none⟩) f.bl.length k2, .slice D3 f.ct.length k3]) f) := fun w' h => HOF.out.fg.ext h
  have HX : Hid (∀ w', Ext Wn w' → RgR w' (.agg #[.int .i64 f.pl, .int .i64 f.mi, .slice a5 f.tr.length q5, .slice b5 f.bl.length r5, .slice c5 f.ct.length t5, .slice A5 n5 k5]) f d) := fun w' h => HTF.out.rg.ext h
  have HV : Hid (∀ w', Ext Wn w' → FgR w' (.agg #[.int .i64 f.pl, .int .i64 f.mi, .slice s.a1 f.tr.length s.c1, .slice s.a2 f.bl.length s.c2, .slice s.a3 f.ct.length s.c3]) f) := fun w' h => HF.out w' (hx1n.trans h)
  have HXN : Hid (Ext w Wn) := hx1.trans hx1n
  have h0 : Ext Wn Wn := Ext.refl _
  clear FX HF HOF HTF FN hx0n hx1n hx1 hx0 hb1 hBa hBb hw9 
  simp only [List.drop_succ_cons, List.drop_zero]
  obtain ⟨T, hT⟩ : ∃ T, checkF f = T := ⟨_, rfl⟩
  have HT := hid hT
  have K := refcheck_any _ f d Wn (HX.out Wn h0) HS.out
  rw [hT] at K
  have HK := hid K
  clear K hT
  go_wp2_with fail
  try rw [hWn]
  clear hWn hab hba p0 p1 p2 p3 p4 u0 u1 u2 u3 u4 u5 f0 f1 f2 f3 f4 v0 v1 v2 v3 v4 v5
  clear a0 a1 a2 a3 a4 x0 x1 x2 x3 x4 x5 q0 q1 q2 q3 q4
  refine HK.out.mono ?_
  clear HK
  rintro e w10 ⟨rfl, h⟩
  have h10 : Ext Wn w10 := h
  clear h h0
  have K := check_any _ f w10 (HO.out w10 h10) HS.out
  rw [HT.out] at K
  have HK := hid K
  clear K
  obtain ⟨⟨a0, a1, a2, a3, a4⟩, ⟨x0, x1, x2, x3, x4, x5⟩, q0, q1, q2, q3, q4⟩ := FC.out w10 h10
  go_wp2_with fail
  clear a0 a1 a2 a3 a4 x0 x1 x2 x3 x4 x5 q0 q1 q2 q3 q4
  refine (HK.out).mono ?_
  rintro e w11 ⟨rfl, h⟩
  have h11 := h10.trans h
  clear HK
  clear h
  obtain ⟨u, hu⟩ : ∃ u, farE f a b = u := ⟨_, rfl⟩
  obtain ⟨n, hn⟩ : ∃ n, farV f a b = n := ⟨_, rfl⟩
  obtain ⟨ve, hve⟩ : ∃ ve, hearsE f i = ve := ⟨_, rfl⟩
  obtain ⟨L, hL⟩ : ∃ L, hearsL f i = L := ⟨_, rfl⟩
  have HU := hid hu
  have HN := hid hn
  have HVE := hid hve
  have HL := hid hL
  clear hu hn hve hL
  obtain ⟨⟨a0, a1, a2, a3, a4⟩, ⟨x0, x1, x2, x3, x4, x5⟩, q0, q1, q2, q3, q4⟩ := FC.out w11 h11
  go_upto_if 36 with fail
  go_cut [12, 13, 14, 15] (fun s12 s13 s14 s15 wx => s12 = .int .i64 u ∧ s13 = .int .i64 ve ∧ s14 = .int .i64 n ∧ (∃ A k, s15 = .slice A L.length k ∧ Ints wx A L) ∧ Ext Wn wx)
  case first =>
    by_cases hT0 : T = 0
    case neg =>
      have bT : (T == 0) = false := by simpa using hT0
      have HE : Hid (u = T ∧ n = 0 ∧ ve = T ∧ L = []) := by
        unfold Hid
        rw [← HU.out, ← HN.out, ← HVE.out, ← HL.out]
        exact ⟨(far_err HT.out hT0).1, (far_err HT.out hT0).2, (hears_err HT.out hT0).1, (hears_err HT.out hT0).2⟩
      go_wp2_with fail
      go_meet
      exact ⟨by rw [HE.out.1], by rw [HE.out.2.2.1], by rw [HE.out.2.1], ⟨none, 0, by rw [HE.out.2.2.2]; rfl, by rw [HE.out.2.2.2]; exact Ints.nil _ _⟩, h11⟩
    subst hT0
    have HOK := hid (checkF_ok HT.out)
    have hdd := HD5.out HT.out
    subst hdd
    obtain ⟨OFF, hOFF⟩ : ∃ OFF, decide (¬ (0 ≤ a ∧ a < f.pl ∧ 0 ≤ b ∧ b < f.pl)) = OFF := ⟨_, rfl⟩
    have HOFF := hid hOFF
    clear hOFF
    go_upto_region 10 with fail
    go_cut [56] (fun s56 wx => s56 = .bool OFF ∧ w11 = wx)
    case first =>
      by_cases ca : a < 0
      · have HE : Hid (OFF = true) := by unfold Hid; rw [← HOFF.out, decide_eq_true_eq]; omega
        go_wp2_with fail
        go_meet
        exact ⟨by rw [HE.out], rfl⟩
      by_cases cb : f.pl ≤ a
      · have HE : Hid (OFF = true) := by unfold Hid; rw [← HOFF.out, decide_eq_true_eq]; omega
        go_wp2_with fail
        go_meet
        exact ⟨by rw [HE.out], rfl⟩
      by_cases cc : b < 0
      · have HE : Hid (OFF = true) := by unfold Hid; rw [← HOFF.out, decide_eq_true_eq]; omega
        go_wp2_with fail
        go_meet
        exact ⟨by rw [HE.out], rfl⟩
      by_cases cd : f.pl ≤ b
      · have HE : Hid (OFF = true) := by unfold Hid; rw [← HOFF.out, decide_eq_true_eq]; omega
        go_wp2_with fail
        go_meet
        exact ⟨by rw [HE.out], rfl⟩
      have HE : Hid (OFF = false) := by unfold Hid; rw [← HOFF.out, decide_eq_false_iff_not]; omega
      go_wp2_with fail
      go_meet
      exact ⟨by rw [HE.out], rfl⟩
    case rest =>
      clear a0 a1 a2 a3 a4 x0 x1 x2 x3 x4 x5 q0 q1 q2 q3 q4
      obtain ⟨rfl, hwc⟩ := hcut
      subst hwc
      go_upto_if 56 with fail
      go_cut [12, 14] (fun s12 s14 wx => s12 = .int .i64 u ∧ s14 = .int .i64 n ∧ Ext Wn wx)
      case first =>
        cases OFF
        case true =>
          have HE : Hid (u = 1 ∧ n = 0) := by
            unfold Hid
            rw [← HU.out, ← HN.out]
            exact far_off HT.out (by have h := HOFF.out; rw [decide_eq_true_eq] at h; exact h)
          go_wp2_with fail
          go_meet
          exact ⟨by rw [HE.out.1], by rw [HE.out.2], h11⟩
        have hno : 0 ≤ a ∧ a < f.pl ∧ 0 ≤ b ∧ b < f.pl := by have h := HOFF.out; rw [decide_eq_false_iff_not] at h; omega
        obtain ⟨ca, cb, cc, cd⟩ := hno
        obtain ⟨an, rfl⟩ : ∃ an : Nat, a = an := ⟨a.toNat, by omega⟩
        obtain ⟨bn, rfl⟩ : ∃ bn : Nat, b = bn := ⟨b.toNat, by omega⟩
        have HAN : Hid (an < f.pl.toNat ∧ bn < f.pl.toNat) := ⟨by omega, by omega⟩
        obtain ⟨R, hR⟩ : ∃ R, farR f an bn = R := ⟨_, rfl⟩
        have HR := hid hR
        obtain ⟨⟨a0, a1, a2, a3, a4⟩, ⟨x0, x1, x2, x3, x4, x5⟩, q0, q1, q2, q3, q4⟩ := FC.out w11 h11
        have K := reffar_any _ f (distL f) an bn w11 (HX.out w11 h11) HS.out HOK.out HAN.out.1 HAN.out.2
        rw [hR] at K
        have HK := hid K
        clear K hR
        go_wp2_with fail
        clear a0 a1 a2 a3 a4 x0 x1 x2 x3 x4 x5 q0 q1 q2 q3 q4
        refine (HK.out).mono ?_
        clear HK
        rintro e w12 ⟨rfl, h⟩
        have h12 := h11.trans h
        clear h
        by_cases hR0 : R < 0
        · have HE : Hid (u = 6 ∧ n = 0) := by
            unfold Hid
            rw [← HU.out, ← HN.out]
            exact far_neg HT.out HAN.out.1 HAN.out.2 (by rw [HR.out]; exact hR0)
          go_wp2_with fail
          go_meet
          exact ⟨by rw [HE.out.1], by rw [HE.out.2], h12⟩
        · have HE : Hid (u = 0 ∧ n = R) := by
            unfold Hid
            rw [← HU.out, ← HN.out, ← HR.out]
            exact far_pos HT.out HAN.out.1 HAN.out.2 (by rw [HR.out]; exact hR0)
          go_wp2_with fail
          go_meet
          exact ⟨by rw [HE.out.1], by rw [HE.out.2], h12⟩
      case rest =>
        obtain ⟨rfl, rfl, h20⟩ := hcut
        obtain ⟨w20, hw20⟩ : ∃ w20, w20 = wc := ⟨_, rfl⟩
        subst hw20
        obtain ⟨⟨a0, a1, a2, a3, a4⟩, ⟨x0, x1, x2, x3, x4, x5⟩, q0, q1, q2, q3, q4⟩ := FC.out w20 h20
        by_cases ce : i < 0
        · have HE : Hid (ve = 1 ∧ L = []) := by
            unfold Hid
            rw [← HVE.out, ← HL.out]
            exact hears_off HT.out (by omega)
          go_wp2_with fail
          go_meet
          exact ⟨rfl, by rw [HE.out.1], rfl, ⟨none, 0, by rw [HE.out.2]; rfl, by rw [HE.out.2]; exact Ints.nil _ _⟩, h20⟩
        by_cases cf : (f.bl.length : Int) ≤ i
        · have HE : Hid (ve = 1 ∧ L = []) := by
            unfold Hid
            rw [← HVE.out, ← HL.out]
            exact hears_off HT.out (by omega)
          go_wp2_with fail
          go_meet
          exact ⟨rfl, by rw [HE.out.1], rfl, ⟨none, 0, by rw [HE.out.2]; rfl, by rw [HE.out.2]; exact Ints.nil _ _⟩, h20⟩
        obtain ⟨im, rfl⟩ : ∃ im : Nat, i = im := ⟨i.toNat, by omega⟩
        obtain ⟨x, hx⟩ := get_of_lt f.bl im (by omega)
        have HXG := hid hx
        clear hx
        have K := refplaces_any _ f im x w20 (HX.out w20 h20) HOK.out HXG.out
        have HE : Hid (ve = 0 ∧ L = natI (hearL f x f.pl.toNat)) := by
          unfold Hid
          rw [← HVE.out, ← HL.out]
          exact hears_in HT.out HXG.out
        rw [← HE.out.2] at K
        have HK := hid K
        clear K
        go_wp2_with fail
        clear a0 a1 a2 a3 a4 x0 x1 x2 x3 x4 x5 q0 q1 q2 q3 q4
        refine (HK.out).mono ?_
        clear HK
        rintro e w21 ⟨r, rfl, h, Ar, kr, rfl, hI, -⟩
        have h21 := h20.trans h
        have HI := hid hI
        clear h hI
        go_wp2_with fail
        go_meet
        exact ⟨rfl, by rw [HE.out.1], rfl, ⟨Ar, kr, rfl, HI.out⟩, h21⟩
  case rest =>
    clear a0 a1 a2 a3 a4 x0 x1 x2 x3 x4 x5 q0 q1 q2 q3 q4
    obtain ⟨rfl, rfl, rfl, ⟨Aw, kw, rfl, hIw⟩, h20⟩ := hcut
    obtain ⟨w20, hw20⟩ : ∃ w20, w20 = wc := ⟨_, rfl⟩
    subst hw20
    have HIW := hid hIw
    have HLN : Hid (L.length ≤ 8) := by unfold Hid; rw [← HL.out]; exact hearsL_len (fun h => (checkF_ok h).pl.2)
    clear hIw
    have K := farx_any _ f a b w20 (HO.out w20 h20) HS.out
    rw [HU.out, HN.out] at K
    have HK := hid K
    clear K
    obtain ⟨⟨a0, a1, a2, a3, a4⟩, ⟨x0, x1, x2, x3, x4, x5⟩, q0, q1, q2, q3, q4⟩ := FC.out w20 h20
    go_wp2_with fail
    clear a0 a1 a2 a3 a4 x0 x1 x2 x3 x4 x5 q0 q1 q2 q3 q4
    refine (HK.out).mono ?_
    rintro e w30 ⟨rfl, h⟩
    have h30 := h20.trans h
    clear HK
    have HIW := hid (HIW.out.ext h)
    clear h
    have K := hearsx_any _ f i w30 (HO.out w30 h30) HS.out
    rw [HVE.out, HL.out] at K
    have HK := hid K
    clear K
    obtain ⟨⟨a0, a1, a2, a3, a4⟩, ⟨x0, x1, x2, x3, x4, x5⟩, q0, q1, q2, q3, q4⟩ := FC.out w30 h30
    go_wp2_with fail
    clear a0 a1 a2 a3 a4 x0 x1 x2 x3 x4 x5 q0 q1 q2 q3 q4
    refine (HK.out).mono ?_
    rintro e w31 ⟨r, rfl, h, Ar, kr, rfl, hI, -⟩
    have h31 := h30.trans h
    clear HK
    have HIW := hid (HIW.out.ext h)
    have HI := hid hI
    clear hI
    clear h
    have HLM : Hid (L.length ≤ 9223372036854775807) := by have := HLN.out; unfold Hid; omega
    have K := eq_int Ar Aw kr kw L L w31 HI.out HIW.out HLM.out HLM.out
    rw [beq_self_eq_true] at K
    have HK := hid K
    clear K
    obtain ⟨⟨a0, a1, a2, a3, a4⟩, ⟨x0, x1, x2, x3, x4, x5⟩, q0, q1, q2, q3, q4⟩ := FC.out w31 h31
    go_wp2_with fail
    clear a0 a1 a2 a3 a4 x0 x1 x2 x3 x4 x5 q0 q1 q2 q3 q4
    refine (HK.out).mono ?_
    rintro e w32 ⟨rfl, h⟩
    have h32 := h31.trans h
    clear HK
    clear h
    have K := same_yes _ _ f w32 (HO.out w32 h32) (HV.out w32 h32) HS.out
    have HK := hid K
    clear K
    obtain ⟨⟨a0, a1, a2, a3, a4⟩, ⟨x0, x1, x2, x3, x4, x5⟩, q0, q1, q2, q3, q4⟩ := FC.out w32 h32
    go_wp2_with fail
    clear a0 a1 a2 a3 a4 x0 x1 x2 x3 x4 x5 q0 q1 q2 q3 q4
    refine (HK.out).mono ?_
    rintro e w33 ⟨rfl, h⟩
    have h33 := h32.trans h
    clear HK
    clear h
    obtain ⟨⟨a0, a1, a2, a3, a4⟩, ⟨x0, x1, x2, x3, x4, x5⟩, q0, q1, q2, q3, q4⟩ := FC.out w33 h33
    go_wp2_with fail
    clear a0 a1 a2 a3 a4 x0 x1 x2 x3 x4 x5 q0 q1 q2 q3 q4
    refine (awake_any w33).mono ?_
    rintro e w34 ⟨rfl, h⟩
    have h34 := h33.trans h
    clear h
    go_wp2
    go_ret
    exact ⟨rfl, HXN.out.trans h34⟩
end Go.Proofs.YtpbpcplboikpcaaGreat
