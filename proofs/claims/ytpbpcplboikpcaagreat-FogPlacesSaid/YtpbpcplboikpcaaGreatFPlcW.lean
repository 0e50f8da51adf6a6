/- The walk of FogPlaces: the law says true of every fog. Printed by my gen_fplaces.py. -/
import Derived.Test.YtpbpcplboikpcaaGreatG7
import Derived.Test.YtpbpcplboikpcaaGreatG6
import Derived.Test.YtpbpcplboikpcaaGreatG5
import Derived.Test.YtpbpcplboikpcaaGreatFStill
import Derived.Test.YtpbpcplboikpcaaGreatFRef16
import Derived.Test.YtpbpcplboikpcaaGreatFRef17
import Derived.Test.YtpbpcplboikpcaaGreatFRef18
import Derived.Test.YtpbpcplboikpcaaGreatG9
import Derived.Test.YtpbpcplboikpcaaGreatFChW
import Derived.Laws.StructEq
import Derived.Deep.DeepCutAuto
import Derived.Deep.CutBlock
namespace Go.Proofs.YtpbpcplboikpcaaGreat
open Go Go.RowKit Go.Shelf
set_option linter.unusedVariables false
set_option linter.unusedSimpArgs false

theorem cartP_bad {f : Fg} {T k : Int} (h : checkF f = T) (hT : T ≠ 0) : cartE f k = T := by unfold cartE; rw [h, if_neg hT]
theorem cartP_in {f : Fg} {k : Int} (h : checkF f = 0) : cartE f k = cartX f k := by unfold cartE; rw [if_pos h]; rfl
theorem atL_len (f : Fg) (k m : Int) : (atL f k m).length ≤ 1000 := by
  unfold atL
  split
  · rename_i h
    have hc : cartE f k = 0 := by
      unfold atE at h
      split at h
      · exact h
      · rename_i h2
        exact Classical.byContradiction fun e => h2 e
    have h8 := (checkF_ok (cartE_ok hc).1).pl.2
    have := (canN_lt (g := farM f) (f := f) (c := ctAt f k) h8 m.toNat).2
    omega
  · simp
theorem metV_len {f : Fg} (k b : Int) : (metV f k b).length ≤ 1000 := by
  unfold metV
  split
  · rename_i h
    have hc : cartE f k = 0 := by
      unfold metE at h
      split at h
      · exact h
      · rename_i h2
        exact Classical.byContradiction fun e => h2 e
    have h8 := (checkF_ok (cartE_ok hc).1).mi
    have h9 : (metM (farM f) f (ctAt f k) (ctAt f b)).length ≤ f.mi.toNat + 1 := by
      unfold metM natI
      rw [List.length_map]
      exact Nat.le_trans (List.length_filter_le _ _) (by simp)
    omega
  · simp
/-- What an error of nothing says of the cart. -/
theorem cartP_at {f : Fg} {k : Int} (h : cartE f k = 0) : ∃ kn c, k = ((kn : Nat) : Int) ∧ f.ct[kn]? = some c ∧ ctAt f k = c ∧ FogOK f := by
  obtain ⟨hc0, hk0, hk1⟩ := cartE_ok h
  obtain ⟨c, hc⟩ := get_of_lt f.ct k.toNat (by omega)
  exact ⟨k.toNat, c, by omega, hc, by unfold ctAt; rw [List.getD_eq_getElem?_getD, hc]; rfl, checkF_ok hc0⟩
theorem cartP_ct {f : Fg} {b : Int} (h : ctOK f b = true) : ∃ bn c, b = ((bn : Nat) : Int) ∧ f.ct[bn]? = some c ∧ ctAt f b = c := by
  have h1 := inB_iff.1 h
  obtain ⟨c, hc⟩ := get_of_lt f.ct b.toNat (by omega)
  exact ⟨b.toNat, c, by omega, hc, by unfold ctAt; rw [List.getD_eq_getElem?_getD, hc]; rfl⟩
theorem cartP_bl {f : Fg} {b : Int} (h : blOK f b = true) : ∃ bn x, b = ((bn : Nat) : Int) ∧ f.bl[bn]? = some x ∧ blAt f b = x := by
  have h1 := inB_iff.1 h
  obtain ⟨x, hx⟩ := get_of_lt f.bl b.toNat (by omega)
  exact ⟨b.toNat, x, by omega, hx, by unfold blAt; rw [List.getD_eq_getElem?_getD, hx]; rfl⟩

set_option maxRecDepth 100000 in
set_option maxHeartbeats 16000000 in
theorem placesw_any (v : Value) (f : Fg) (k o m b : Int) (w : World) (hf : FgR w v f) (hl : f.ct.length ≤ 9223372036854775807) :
    Calls Tryz.prog 7 #[v, .int .i64 k, .int .i64 o, .int .i64 m, .int .i64 b] w fun e w' => e = .returned (.bool true) ∧ Ext w w' := by
  obtain ⟨s, rfl, hr⟩ := hf.rows
  obtain ⟨W0, hW0⟩ : ∃ W0, w.alloc (.cells #[.int .i64 f.pl, .int .i64 f.mi, .slice s.a1 f.tr.length s.c1, .slice s.a2 f.bl.length s.c2, .slice s.a3 f.ct.length s.c3] 28) = W0 := ⟨_, rfl⟩
  have hx0 : Ext w W0 := by rw [← hW0]; exact Ext.alloc (Ext.refl w) _
  have FX : Hid (∀ w', Ext W0 w' → w'.cell? ⟨w.heap.size, 0, none⟩ = some (.int .i64 f.pl) ∧ w'.cell? ⟨w.heap.size, 1, none⟩ = some (.int .i64 f.mi) ∧ w'.cell? ⟨w.heap.size, 2, none⟩ = some (.slice s.a1 f.tr.length s.c1) ∧ w'.cell? ⟨w.heap.size, 3, none⟩ = some (.slice s.a2 f.bl.length s.c2) ∧ w'.cell? ⟨w.heap.size, 4, none⟩ = some (.slice s.a3 f.ct.length s.c3)) := fun w' h => ⟨h.cell (by rw [← hW0]; simp [go_sem]), h.cell (by rw [← hW0]; simp [go_sem]), h.cell (by rw [← hW0]; simp [go_sem]), h.cell (by rw [← hW0]; simp [go_sem]), h.cell (by rw [← hW0]; simp [go_sem])⟩
  obtain ⟨q0, q1, q2, q3, q4⟩ := FX.out W0 (Ext.refl _)
  have K1 := great_any (s.val f) f W0 (hf.ext hx0) hl
  obtain ⟨GR, hGR⟩ : ∃ GR, greatF f = GR := ⟨_, rfl⟩
  rw [hGR] at K1
  have HGR := hid hGR
  have HF0 := hid hf
  clear hf
  unfold Ads.val fval
  unfold Ads.val fval at K1
  go_enter Tryz.func7, Tryz.ntmps7
  go_wp2_with fail
  try rw [hW0]
  clear hW0 q0 q1 q2 q3 q4
  refine K1.mono ?_
  clear K1
  rintro e w1 ⟨rfl, hb1⟩
  have hx1 := hx0.trans hb1
  clear hGR
  cases GR
  case true =>
    go_wp2_with fail
    refine (awake_any w1).mono ?_
    rintro e w2 ⟨rfl, hb2⟩
    go_wp2
    go_ret
    exact ⟨rfl, hx1.trans hb2⟩
  have HS := hid (great_sized HGR.out)
  have HF : Hid (∀ w', Ext w1 w' → FgR w' (.agg #[.int .i64 f.pl, .int .i64 f.mi, .slice s.a1 f.tr.length s.c1, .slice s.a2 f.bl.length s.c2, .slice s.a3 f.ct.length s.c3]) f) := fun w' h => HF0.out.ext (hx1.trans h)
  clear HGR hl hr HF0
  go_wp2
  refine wp_region_shut_tail Ext (fun w' => Ext w1 w') (fun
    | 1 => some (fun v w' => OwnV w' f v)
    | 3 => some (fun v w' => TheirsV w' f v)
    | 4 => some (fun v w' => ∃ B, v = .pointer (some ⟨B, 0, none⟩) ∧ w1.heap.size ≤ B ∧ w'.heap[B]? = some (.cells #[.int .i64 0, .int .i64 0, .slice none 0 0, .slice none 0 0, .slice none 0 0] 28 (0, 0)))
    | 5 => some (fun v w' => ∃ B, v = .pointer (some ⟨B, 0, none⟩) ∧ w1.heap.size ≤ B ∧ w'.heap[B]? = some (.cells #[.int .i64 0, .int .i64 0, .slice none 0 0, .slice none 0 0, .slice none 0 0, .slice none 0 0] 37 (0, 0)))
    | _ => none) 6 (by kernel_rfl) (by kernel_rfl) (fun _ _ h k => h.trans k) ?hT (Ext.drew (Ext.refl w1)) ?_
  case hT =>
    intro i R hR
    match i, hR with
    | 1, hR => cases hR; exact fun _ _ _ h k => h.ext k
    | 3, hR => cases hR; exact fun _ _ _ h k => h.ext k
    | 4, hR => cases hR; exact fun _ _ _ ⟨B, e, h1, h⟩ k => ⟨B, e, h1, (Below.block k B (Array.getElem?_eq_some_iff.1 h).1).trans h⟩
    | 5, hR => cases hR; exact fun _ _ _ ⟨B, e, h1, h⟩ k => ⟨B, e, h1, (Below.block k B (Array.getElem?_eq_some_iff.1 h).1).trans h⟩
  refine wM_val ?ua0 rfl rfl Ext.refl (fun w' hD => ?ha0) (fun pha0 => ?na0)
  case ha0 =>
    obtain ⟨d0, d1, d2, d3, d4⟩ := FX.out _ (hb1.trans hD.1)
    go_simp; rfl
  simp only [Act.put, List.setIfInBounds_toArray, List.set_cons_succ, List.set_cons_zero, Nat.reduceAdd]
  refine wM_op _ rfl rfl (opens_call ?fa1 ?ga1 (fun w' hD => ?ha1) (fun w' hD => ?ca1)) (fun v1 hv1 => ?na1)
  case ha1 => go_simp; constructor <;> rfl
  case ca1 =>
    refine (own_any _ f w' (HF.out w' hD.1) HS.out).mono ?_
    rintro e w2 ⟨v, rfl, hb, ho⟩
    exact ⟨_, rfl, hb, own_cells ho⟩
  obtain ⟨_, -, -, g1, k1, g2, k2, D3, k3, rfl, -⟩ := hv1
  simp only [Act.put, List.setIfInBounds_toArray, List.set_cons_succ, List.set_cons_zero, Nat.reduceAdd]
  refine wM_val ?ua2 rfl rfl Ext.refl (fun w' hD => ?ha2) (fun pha2 => ?na2)
  case ha2 =>
    obtain ⟨d0, d1, d2, d3, d4⟩ := FX.out _ (hb1.trans hD.1)
    go_simp; rfl
  simp only [Act.put, List.setIfInBounds_toArray, List.set_cons_succ, List.set_cons_zero, Nat.reduceAdd]
  refine wM_op _ rfl rfl (opens_call ?fa3 ?ga3 (fun w' hD => ?ha3) (fun w' hD => ?ca3)) (fun v3 hv3 => ?na3)
  case ha3 => go_simp; constructor <;> rfl
  case ca3 =>
    refine (theirs_any _ f w' (HF.out w' hD.1) HS.out).mono ?_
    rintro e w2 ⟨v, d, rfl, hb, ho, hd⟩
    exact ⟨_, rfl, hb, theirs_cells ho hd⟩
  obtain ⟨_, -, -, a5, q5, b5, r5, c5, t5, A5, n5, k5, rfl, -⟩ := hv3
  simp only [Act.put, List.setIfInBounds_toArray, List.set_cons_succ, List.set_cons_zero, Nat.reduceAdd]
  refine wM_op _ rfl rfl (opens_val (fun w' hD => ?hm4)) (fun va4 hva4 => ?nm4)
  case hm4 =>
    refine ⟨.pointer (some ⟨w'.heap.size, 0, none⟩), w'.alloc (.cells #[.int .i64 0, .int .i64 0, .slice none 0 0, .slice none 0 0, .slice none 0 0] 28), ?_, Ext.alloc (Ext.refl _) _, w'.heap.size, rfl, hD.1.size, World.alloc_heap_new _ _⟩
    go_simp
  obtain ⟨_, -, -, Ba, rfl, -⟩ := hva4
  simp only [Act.put, List.setIfInBounds_toArray, List.set_cons_succ, List.set_cons_zero, Nat.reduceAdd]
  refine wM_op _ rfl rfl (opens_val (fun w' hD => ?hm5)) (fun va5 hva5 => ?nm5)
  case hm5 =>
    refine ⟨.pointer (some ⟨w'.heap.size, 0, none⟩), w'.alloc (.cells #[.int .i64 0, .int .i64 0, .slice none 0 0, .slice none 0 0, .slice none 0 0, .slice none 0 0] 37), ?_, Ext.alloc (Ext.refl _) _, w'.heap.size, rfl, hD.1.size, World.alloc_heap_new _ _⟩
    go_simp
  obtain ⟨_, -, -, Bb, rfl, -⟩ := hva5
  simp only [Act.put, List.setIfInBounds_toArray, List.set_cons_succ, List.set_cons_zero, Nat.reduceAdd]
  refine wM_nil ?_
  intro w9 hw9 hF9
  obtain ⟨-, g1', k1', g2', k2', D3', k3', e1, ho1⟩ := hF9 1
  cases e1
  obtain ⟨-, a5', q5', b5', r5', c5', t5', A5', n5', k5', e5, d, ho5, hd5⟩ := hF9 3
  cases e5
  obtain ⟨-, Ba', e6, hBa, GA⟩ := hF9 4
  cases e6
  obtain ⟨-, Bb', e7, hBb, GB⟩ := hF9 5
  cases e7
  clear hF9
  have hab : Ba ≠ Bb := fun e => by
    rw [e, GB] at GA
    injection GA with e1
    injection e1 with _ e2 _
    exact absurd e2 (by decide)
  have hba : Bb ≠ Ba := fun e => hab e.symm
  have hFB : FogB w9 (fun n => n = Ba ∨ n = Bb) := fun n hn => by
    rcases hn with e | e
    · exact ⟨_, _, by rw [e]; exact GA, by decide, by decide, by decide, by decide, by decide⟩
    · exact ⟨_, _, by rw [e]; exact GB, by decide, by decide, by decide, by decide, by decide⟩
  have hRB : RefB w9 (fun n => n = Ba ∨ n = Bb) := fun n hn => by
    rcases hn with e | e
    · exact ⟨_, _, by rw [e]; exact GA, by decide, by decide, by decide, by decide, by decide, by decide⟩
    · exact ⟨_, _, by rw [e]; exact GB, by decide, by decide, by decide, by decide, by decide, by decide⟩
  obtain ⟨Wn, hWn⟩ : ∃ Wn, (((((((((((w9.setCell ⟨Ba, 0, none⟩ (.int .i64 f.pl)).setCell ⟨Ba, 1, none⟩ (.int .i64 f.mi)).setCell ⟨Ba, 2, none⟩ (.slice (some ⟨g1, 0, none⟩) f.tr.length k1)).setCell ⟨Ba, 3, none⟩ (.slice (some ⟨g2, 0, none⟩) f.bl.length k2)).setCell ⟨Ba, 4, none⟩ (.slice D3 f.ct.length k3)).setCell ⟨Bb, 0, none⟩ (.int .i64 f.pl)).setCell ⟨Bb, 1, none⟩ (.int .i64 f.mi)).setCell ⟨Bb, 2, none⟩ (.slice a5 f.tr.length q5)).setCell ⟨Bb, 3, none⟩ (.slice b5 f.bl.length r5)).setCell ⟨Bb, 4, none⟩ (.slice c5 f.ct.length t5)).setCell ⟨Bb, 5, none⟩ (.slice A5 n5 k5)) = Wn := ⟨_, rfl⟩
  have hbn : BelS (fun n => n = Ba ∨ n = Bb) w9 Wn := by
    rw [← hWn]
    exact ((((((((((((BelS.refl _ w9).setCell (S := fun n => n = Ba ∨ n = Bb) ⟨Ba, 0, none⟩ _ (.inl rfl)).setCell (S := fun n => n = Ba ∨ n = Bb) ⟨Ba, 1, none⟩ _ (.inl rfl)).setCell (S := fun n => n = Ba ∨ n = Bb) ⟨Ba, 2, none⟩ _ (.inl rfl)).setCell (S := fun n => n = Ba ∨ n = Bb) ⟨Ba, 3, none⟩ _ (.inl rfl)).setCell (S := fun n => n = Ba ∨ n = Bb) ⟨Ba, 4, none⟩ _ (.inl rfl)).setCell (S := fun n => n = Ba ∨ n = Bb) ⟨Bb, 0, none⟩ _ (.inr rfl)).setCell (S := fun n => n = Ba ∨ n = Bb) ⟨Bb, 1, none⟩ _ (.inr rfl)).setCell (S := fun n => n = Ba ∨ n = Bb) ⟨Bb, 2, none⟩ _ (.inr rfl)).setCell (S := fun n => n = Ba ∨ n = Bb) ⟨Bb, 3, none⟩ _ (.inr rfl)).setCell (S := fun n => n = Ba ∨ n = Bb) ⟨Bb, 4, none⟩ _ (.inr rfl)).setCell (S := fun n => n = Ba ∨ n = Bb) ⟨Bb, 5, none⟩ _ (.inr rfl))
  have hx0n : Ext W0 Wn := by
    have h1 : W0.heap.size ≤ Ba := Nat.le_trans hb1.size hBa
    have h2 : W0.heap.size ≤ Bb := Nat.le_trans hb1.size hBb
    rw [← hWn]
    exact ((((((((((((hb1.trans hw9).setCell (by simpa using h1) _).setCell (by simpa using h1) _).setCell (by simpa using h1) _).setCell (by simpa using h1) _).setCell (by simpa using h1) _).setCell (by simpa using h2) _).setCell (by simpa using h2) _).setCell (by simpa using h2) _).setCell (by simpa using h2) _).setCell (by simpa using h2) _).setCell (by simpa using h2) _)
  have hx1n : Ext w1 Wn := by
    rw [← hWn]
    exact (((((((((((hw9.setCell (by simpa using hBa) _).setCell (by simpa using hBa) _).setCell (by simpa using hBa) _).setCell (by simpa using hBa) _).setCell (by simpa using hBa) _).setCell (by simpa using hBb) _).setCell (by simpa using hBb) _).setCell (by simpa using hBb) _).setCell (by simpa using hBb) _).setCell (by simpa using hBb) _).setCell (by simpa using hBb) _)
  have p0 := block_cell (i := 0) GA
  have f0 := blk_free (i := 0) GA
  have p1 := block_cell (i := 1) GA
  have f1 := blk_free (i := 1) GA
  have p2 := block_cell (i := 2) GA
  have f2 := blk_free (i := 2) GA
  have p3 := block_cell (i := 3) GA
  have f3 := blk_free (i := 3) GA
  have p4 := block_cell (i := 4) GA
  have f4 := blk_free (i := 4) GA
  have u0 := block_cell (i := 0) GB
  have v0 := blk_free (i := 0) GB
  have u1 := block_cell (i := 1) GB
  have v1 := blk_free (i := 1) GB
  have u2 := block_cell (i := 2) GB
  have v2 := blk_free (i := 2) GB
  have u3 := block_cell (i := 3) GB
  have v3 := blk_free (i := 3) GB
  have u4 := block_cell (i := 4) GB
  have v4 := blk_free (i := 4) GB
  have u5 := block_cell (i := 5) GB
  have v5 := blk_free (i := 5) GB
  simp only [List.getElem?_toArray, List.getElem?_cons_zero, List.getElem?_cons_succ] at p0 p1 p2 p3 p4 u0 u1 u2 u3 u4 u5
  have FN : Hid ((Wn.cell? ⟨Ba, 0, none⟩ = some (.int .i64 f.pl) ∧ Wn.cell? ⟨Ba, 1, none⟩ = some (.int .i64 f.mi) ∧ Wn.cell? ⟨Ba, 2, none⟩ = some (.slice (some ⟨g1, 0, none⟩) f.tr.length k1) ∧ Wn.cell? ⟨Ba, 3, none⟩ = some (.slice (some ⟨g2, 0, none⟩) f.bl.length k2) ∧ Wn.cell? ⟨Ba, 4, none⟩ = some (.slice D3 f.ct.length k3)) ∧ Wn.cell? ⟨Bb, 0, none⟩ = some (.int .i64 f.pl) ∧ Wn.cell? ⟨Bb, 1, none⟩ = some (.int .i64 f.mi) ∧ Wn.cell? ⟨Bb, 2, none⟩ = some (.slice a5 f.tr.length q5) ∧ Wn.cell? ⟨Bb, 3, none⟩ = some (.slice b5 f.bl.length r5) ∧ Wn.cell? ⟨Bb, 4, none⟩ = some (.slice c5 f.ct.length t5) ∧ Wn.cell? ⟨Bb, 5, none⟩ = some (.slice A5 n5 k5)) := by
    unfold Hid
    rw [← hWn]
    have hab' := hab
    have hba' := hba
    simp [go_sem, p0, p1, p2, p3, p4, u0, u1, u2, u3, u4, u5, hab', hba']
  have HOF : Hid (OwnF Wn (.agg #[.int .i64 f.pl, .int .i64 f.mi, .slice (some ⟨g1, 0, none⟩) f.tr.length k1, .slice (some ⟨g2, 0, none⟩) f.bl.length k2, .slice D3 f.ct.length k3]) f) := ho1.keep hbn hFB
  have HTF : Hid (TheirsF Wn (.agg #[.int .i64 f.pl, .int .i64 f.mi, .slice a5 f.tr.length q5, .slice b5 f.bl.length r5, .slice c5 f.ct.length t5, .slice A5 n5 k5]) f d) := ho5.keep hbn hRB
  have HD5 := hid hd5
  clear ho1 ho5 hbn hFB hRB GA GB hd5
  obtain ⟨⟨a0, a1, a2, a3, a4⟩, x0, x1, x2, x3, x4, x5⟩ := FN.out
  have FC : Hid (∀ w', Ext Wn w' → (w'.cell? ⟨Ba, 0, none⟩ = some (.int .i64 f.pl) ∧ w'.cell? ⟨Ba, 1, none⟩ = some (.int .i64 f.mi) ∧ w'.cell? ⟨Ba, 2, none⟩ = some (.slice (some ⟨g1, 0, none⟩) f.tr.length k1) ∧ w'.cell? ⟨Ba, 3, none⟩ = some (.slice (some ⟨g2, 0, none⟩) f.bl.length k2) ∧ w'.cell? ⟨Ba, 4, none⟩ = some (.slice D3 f.ct.length k3)) ∧ (w'.cell? ⟨Bb, 0, none⟩ = some (.int .i64 f.pl) ∧ w'.cell? ⟨Bb, 1, none⟩ = some (.int .i64 f.mi) ∧ w'.cell? ⟨Bb, 2, none⟩ = some (.slice a5 f.tr.length q5) ∧ w'.cell? ⟨Bb, 3, none⟩ = some (.slice b5 f.bl.length r5) ∧ w'.cell? ⟨Bb, 4, none⟩ = some (.slice c5 f.ct.length t5) ∧ w'.cell? ⟨Bb, 5, none⟩ = some (.slice A5 n5 k5)) ∧ w'.cell? ⟨w.heap.size, 0, none⟩ = some (.int .i64 f.pl) ∧ w'.cell? ⟨w.heap.size, 1, none⟩ = some (.int .i64 f.mi) ∧ w'.cell? ⟨w.heap.size, 2, none⟩ = some (.slice s.a1 f.tr.length s.c1) ∧ w'.cell? ⟨w.heap.size, 3, none⟩ = some (.slice s.a2 f.bl.length s.c2) ∧ w'.cell? ⟨w.heap.size, 4, none⟩ = some (.slice s.a3 f.ct.length s.c3)) := fun w' h => ⟨⟨h.cell a0, h.cell a1, h.cell a2, h.cell a3, h.cell a4⟩, ⟨h.cell x0, h.cell x1, h.cell x2, h.cell x3, h.cell x4, h.cell x5⟩, FX.out w' (hx0n.trans h)⟩
  obtain ⟨-, -, q0, q1, q2, q3, q4⟩ := FC.out Wn (Ext.refl _)
  have HO : Hid (∀ w', Ext Wn w' → FgR w' (.agg #[.int .i64 f.pl, .int .i64 f.mi, .slice (some ⟨g1, 0, none⟩) f.tr.length k1, .slice (some ⟨g2, 0, none⟩) f.bl.length k2, .slice D3 f.ct.length k3]) f) := fun w' h => HOF.out.fg.ext h
  have HX : Hid (∀ w', Ext Wn w' → RgR w' (.agg #[.int .i64 f.pl, .int .i64 f.mi, .slice a5 f.tr.length q5, .slice b5 f.bl.length r5, .slice c5 f.ct.length t5, .slice A5 n5 k5]) f d) := fun w' h => HTF.out.rg.ext h
  have HV : Hid (∀ w', Ext Wn w' → FgR w' (.agg #[.int .i64 f.pl, .int .i64 f.mi, .slice s.a1 f.tr.length s.c1, .slice s.a2 f.bl.length s.c2, .slice s.a3 f.ct.length s.c3]) f) := fun w' h => HF.out w' (hx1n.trans h)
  have HXN : Hid (Ext w Wn) := hx1.trans hx1n
  have h0 : Ext Wn Wn := Ext.refl _
  clear FX HF HOF HTF FN hx0n hx1n hx1 hx0 hb1 hBa hBb hw9 
  simp only [List.drop_succ_cons, List.drop_zero]
  obtain ⟨T, hT⟩ : ∃ T, checkF f = T := ⟨_, rfl⟩
  have HT := hid hT
  have K := refcheck_any _ f d Wn (HX.out Wn h0) HS.out
  rw [hT] at K
  have HK := hid K
  clear K hT
  go_wp2_with fail
  try rw [hWn]
  clear hWn hab hba p0 p1 p2 p3 p4 u0 u1 u2 u3 u4 u5 f0 f1 f2 f3 f4 v0 v1 v2 v3 v4 v5
  clear a0 a1 a2 a3 a4 x0 x1 x2 x3 x4 x5 q0 q1 q2 q3 q4
  refine HK.out.mono ?_
  clear HK
  rintro e w10 ⟨rfl, h⟩
  have h10 : Ext Wn w10 := h
  clear h h0
  obtain ⟨E1, hE1⟩ : ∃ E1, cartE f k = E1 := ⟨_, rfl⟩
  have H_E1 := hid hE1
  clear hE1
  obtain ⟨AE, hAE⟩ : ∃ AE, atE f k m = AE := ⟨_, rfl⟩
  have H_AE := hid hAE
  clear hAE
  obtain ⟨BE, hBE⟩ : ∃ BE, stillE f k = BE := ⟨_, rfl⟩
  have H_BE := hid hBE
  clear hBE
  obtain ⟨CE, hCE⟩ : ∃ CE, heardE f k b = CE := ⟨_, rfl⟩
  have H_CE := hid hCE
  clear hCE
  obtain ⟨DE, hDE⟩ : ∃ DE, metE f k o = DE := ⟨_, rfl⟩
  have H_DE := hid hDE
  clear hDE
  obtain ⟨LA, hLA⟩ : ∃ LA, atL f k m = LA := ⟨_, rfl⟩
  have H_LA := hid hLA
  clear hLA
  obtain ⟨SV, hSV⟩ : ∃ SV, stillV f k = SV := ⟨_, rfl⟩
  have H_SV := hid hSV
  clear hSV
  obtain ⟨HA, hHA⟩ : ∃ HA, heardA f k b = HA := ⟨_, rfl⟩
  have H_HA := hid hHA
  clear hHA
  obtain ⟨HN, hHN⟩ : ∃ HN, heardN f k b = HN := ⟨_, rfl⟩
  have H_HN := hid hHN
  clear hHN
  obtain ⟨LM, hLM⟩ : ∃ LM, metV f k o = LM := ⟨_, rfl⟩
  have H_LM := hid hLM
  clear hLM
  have HLA : Hid (LA.length ≤ 1000) := by unfold Hid; rw [← H_LA.out]; exact atL_len f k m
  have HLM : Hid (LM.length ≤ 1000) := by unfold Hid; rw [← H_LM.out]; exact metV_len k o
  obtain ⟨⟨a0, a1, a2, a3, a4⟩, ⟨x0, x1, x2, x3, x4, x5⟩, q0, q1, q2, q3, q4⟩ := FC.out w10 h10
  go_upto_if 43 with fail
  go_cut [13] (fun s13 wx => s13 = .int .i64 E1 ∧ Ext Wn wx)
  case first =>
    by_cases hT0 : T = 0
    case neg =>
      have bT : (T == 0) = false := by simpa using hT0
      have HE : Hid (E1 = T) := by unfold Hid; rw [← H_E1.out]; exact cartP_bad HT.out hT0
      go_wp2_with fail
      go_meet
      exact ⟨by rw [HE.out], h10⟩
    subst hT0
    clear a0 a1 a2 a3 a4 x0 x1 x2 x3 x4 x5 q0 q1 q2 q3 q4
    have K := refcart_any _ f d k w10 (HX.out w10 h10) HS.out
    rw [← cartP_in HT.out, H_E1.out] at K
    have HK := hid K
    clear K
    obtain ⟨⟨a0, a1, a2, a3, a4⟩, ⟨x0, x1, x2, x3, x4, x5⟩, q0, q1, q2, q3, q4⟩ := FC.out w10 h10
    go_wp2_with fail
    clear a0 a1 a2 a3 a4 x0 x1 x2 x3 x4 x5 q0 q1 q2 q3 q4
    refine (HK.out).mono ?_
    clear HK
    rintro e w12 ⟨rfl, h⟩
    have h12 := h10.trans h
    clear h
    go_wp2_with fail
    go_meet
    exact ⟨rfl, h12⟩
  case rest =>
    clear a0 a1 a2 a3 a4 x0 x1 x2 x3 x4 x5 q0 q1 q2 q3 q4
    obtain ⟨rfl, h20⟩ := hcut
    obtain ⟨w20, hw20⟩ : ∃ w20, w20 = wc := ⟨_, rfl⟩
    subst hw20
    obtain ⟨⟨a0, a1, a2, a3, a4⟩, ⟨x0, x1, x2, x3, x4, x5⟩, q0, q1, q2, q3, q4⟩ := FC.out w20 h20
    go_upto_if 52 with fail
    go_cut [14, 15, 16, 17] (fun s14 s15 s16 s17 wx => s14 = .int .i64 AE ∧ s15 = .int .i64 BE ∧ s16 = .int .i64 CE ∧ s17 = .int .i64 DE ∧ Ext Wn wx)
    case first =>
     as_aux_lemma =>
      by_cases hE0 : E1 = 0
      case neg =>
        have bE : (E1 == 0) = false := by simpa using hE0
        have e : cartE f k ≠ 0 := by rw [H_E1.out]; exact hE0
        have HV : Hid (AE = E1 ∧ BE = E1 ∧ CE = E1 ∧ DE = E1) := by
          unfold Hid
          rw [← H_AE.out, ← H_BE.out, ← H_CE.out, ← H_DE.out]
          unfold atE stillE heardE metE
          rw [if_pos e, if_pos e, if_pos e, if_pos e, H_E1.out]
          exact ⟨rfl, rfl, rfl, rfl⟩
        go_wp2_with fail
        go_meet
        exact ⟨by rw [HV.out.1], by rw [HV.out.2.1], by rw [HV.out.2.2.1], by rw [HV.out.2.2.2], h20⟩
      subst hE0
      obtain ⟨kn, c, hkn, hcg, hca, hok⟩ := cartP_at H_E1.out
      subst hkn
      have HOK := hid hok
      have hdd := HD5.out (cartE_ok H_E1.out).1
      subst hdd
      have HCG := hid hcg
      have HCM : Hid (c ∈ f.ct) := mem_of_get hcg
      have HCA := hid hca
      have hpl := HOK.out.pl
      have hmi := HOK.out.mi
      clear hcg hca hok
      have h8 := HOK.out.rn c HCM.out
      obtain ⟨LO, hLO⟩ : ∃ LO, lostF (farM f) f c = LO := ⟨_, rfl⟩
      obtain ⟨MO, hMO⟩ : ∃ MO, miOK f m = MO := ⟨_, rfl⟩
      obtain ⟨BO, hBO⟩ : ∃ BO, blOK f b = BO := ⟨_, rfl⟩
      obtain ⟨OO, hOO⟩ : ∃ OO, ctOK f o = OO := ⟨_, rfl⟩
      obtain ⟨L2, hL2⟩ : ∃ L2, lostF (farM f) f (ctAt f o) = L2 := ⟨_, rfl⟩
      have HLO := hid hLO
      have HMO := hid hMO
      have HBO := hid hBO
      have HOO := hid hOO
      have HL2 := hid hL2
      have HA1 : Hid (AE = if MO then (if LO then 7 else 0) else 3) := by
        unfold Hid; rw [← H_AE.out]; unfold atE; rw [if_neg (fun h => h H_E1.out), HCA.out, hLO, hMO]
      have HB1 : Hid (BE = if LO then 7 else 0) := by
        unfold Hid; rw [← H_BE.out]; unfold stillE; rw [if_neg (fun h => h H_E1.out), HCA.out, hLO]
      have HC1 : Hid (CE = if BO then (if LO then 7 else 0) else 1) := by
        unfold Hid; rw [← H_CE.out]; unfold heardE; rw [if_neg (fun h => h H_E1.out), HCA.out, hLO, hBO]
      have HD1 : Hid (DE = if OO then (if (LO || L2) then 7 else 0) else 1) := by
        unfold Hid; rw [← H_DE.out]; unfold metE; rw [if_neg (fun h => h H_E1.out), HCA.out, hLO, hOO, hL2]
      obtain ⟨CV, hCV⟩ : ∃ CV, countM (farM f) f c allF = CV := ⟨_, rfl⟩
      have HCVB : Hid ((CV == 0) = LO) := by
        unfold Hid; rw [← hLO, ← hCV]; unfold lostF
        rw [Bool.eq_iff_iff]; simp
      have KC : Hid (∀ w', Ext w20 w' → Calls Tryz.prog 36 #[.agg #[.int .i64 f.pl, .int .i64 f.mi, .slice a5 f.tr.length q5, .slice b5 f.bl.length r5, .slice c5 f.ct.length t5, .slice A5 n5 k5], .int .i64 (kn : Int), .int .i64 (everyN c : Nat)] w' fun e w2 => e = .returned (.int .i64 CV) ∧ Ext w' w2) := fun w' h => by
        have K := refcount_any _ f kn c (everyN c) w' (HX.out w' (h20.trans h)) HS.out HOK.out HCG.out (every_lt h8)
        rw [count_all, hCV] at K
        exact K
      have HMX : Hid (minX f m = if MO then 0 else 3) := by unfold Hid minX; rw [hMO]
      have HOX : Hid (cartX f o = if OO then 0 else 1) := by unfold Hid cartX; rw [hOO]
      clear hLO hMO hBO hOO hL2 hCV
      go_wp2
      refine wp_region_shut Ext (fun w' => Ext w20 w') (fun
        | 4 => some (fun v w' => v = .int .i64 (everyN c : Nat))
        | 5 => some (fun v w' => v = .int .i64 CV)
        | _ => none) (by kernel_rfl) (by kernel_rfl) (fun _ _ h k => h.trans k) ?hTs (Ext.drew (Ext.refl w20)) ?_
      case hTs =>
        intro i R hR
        match i, hR with
        | 4, hR => cases hR; exact fun _ _ _ h _ => h
        | 5, hR => cases hR; exact fun _ _ _ h _ => h
      refine wM_val ?us0 rfl rfl Ext.refl (fun w' hD => ?hs0) (fun phs0 => ?ns0)
      case hs0 =>
        obtain ⟨⟨a0, a1, a2, a3, a4⟩, ⟨x0, x1, x2, x3, x4, x5⟩, q0, q1, q2, q3, q4⟩ := FC.out w' (h20.trans hD.1)
        go_simp; rfl
      simp only [Act.put, List.setIfInBounds_toArray, List.set_cons_succ, List.set_cons_zero, Nat.reduceAdd]
      refine wM_val ?us1 rfl rfl Ext.refl (fun w' hD => ?hs1) (fun phs1 => ?ns1)
      case hs1 =>
        obtain ⟨⟨a0, a1, a2, a3, a4⟩, ⟨x0, x1, x2, x3, x4, x5⟩, q0, q1, q2, q3, q4⟩ := FC.out w' (h20.trans hD.1)
        go_simp; rfl
      simp only [Act.put, List.setIfInBounds_toArray, List.set_cons_succ, List.set_cons_zero, Nat.reduceAdd]
      refine wM_val ?us2 rfl rfl Ext.refl (fun w' hD => ?hs2) (fun phs2 => ?ns2)
      case hs2 =>
        obtain ⟨⟨a0, a1, a2, a3, a4⟩, ⟨x0, x1, x2, x3, x4, x5⟩, q0, q1, q2, q3, q4⟩ := FC.out w' (h20.trans hD.1)
        go_simp; rfl
      simp only [Act.put, List.setIfInBounds_toArray, List.set_cons_succ, List.set_cons_zero, Nat.reduceAdd]
      refine wM_val ?us3 rfl rfl Ext.refl (fun w' hD => ?hs3) (fun phs3 => ?ns3)
      case hs3 =>
        obtain ⟨⟨a0, a1, a2, a3, a4⟩, ⟨x0, x1, x2, x3, x4, x5⟩, q0, q1, q2, q3, q4⟩ := FC.out w' (h20.trans hD.1)
        go_simp; rfl
      simp only [Act.put, List.setIfInBounds_toArray, List.set_cons_succ, List.set_cons_zero, Nat.reduceAdd]
      refine wM_op _ rfl rfl (opens_call ?fs4 ?gs4 (fun w' hD => ?hs4) (fun w' hD => ?cs4)) (fun v4 hv4 => ?ns4)
      case hs4 => go_simp; constructor <;> rfl
      case cs4 =>
        refine (refevery_any _ f (distL f) kn c w' (HX.out w' (h20.trans hD.1)) HCG.out h8).mono ?_
        rintro e w2 ⟨rfl, hb⟩
        exact ⟨_, rfl, hb, rfl⟩
      obtain ⟨_, -, -, rfl⟩ := hv4
      simp only [Act.put, List.setIfInBounds_toArray, List.set_cons_succ, List.set_cons_zero, Nat.reduceAdd]
      refine wM_op _ rfl rfl (opens_call ?fs5 ?gs5 (fun w' hD => ?hs5) (fun w' hD => ?cs5)) (fun v5 hv5 => ?ns5)
      case hs5 => go_simp; constructor <;> rfl
      case cs5 =>
        refine (KC.out w' hD.1).mono ?_
        rintro e w2 ⟨rfl, hb⟩
        exact ⟨_, rfl, hb, rfl⟩
      obtain ⟨_, -, -, rfl⟩ := hv5
      simp only [Act.put, List.setIfInBounds_toArray, List.set_cons_succ, List.set_cons_zero, Nat.reduceAdd]
      refine wM_val ?us6 rfl rfl Ext.refl (fun w' hD => ?hs6) (fun phs6 => ?ns6)
      case hs6 =>
        obtain ⟨⟨a0, a1, a2, a3, a4⟩, ⟨x0, x1, x2, x3, x4, x5⟩, q0, q1, q2, q3, q4⟩ := FC.out w' (h20.trans hD.1)
        go_simp; rfl
      simp only [Act.put, List.setIfInBounds_toArray, List.set_cons_succ, List.set_cons_zero, Nat.reduceAdd]
      refine wM_val ?us7 rfl rfl Ext.refl (fun w' hD => ?hs7) (fun phs7 => ?ns7)
      case hs7 =>
        obtain ⟨⟨a0, a1, a2, a3, a4⟩, ⟨x0, x1, x2, x3, x4, x5⟩, q0, q1, q2, q3, q4⟩ := FC.out w' (h20.trans hD.1)
        go_simp; rfl
      simp only [Act.put, List.setIfInBounds_toArray, List.set_cons_succ, List.set_cons_zero, Nat.reduceAdd]
      refine wM_nil ?_
      intro w9 hw9 hF9
      clear hF9 KC
      rw [HCVB.out]
      have h21 := h20.trans hw9
      obtain ⟨w21, hw21⟩ : ∃ w21, w21 = w9 := ⟨_, rfl⟩
      subst hw21
      clear hw9
      clear a0 a1 a2 a3 a4 x0 x1 x2 x3 x4 x5 q0 q1 q2 q3 q4
      have K := refmin_any _ f (distL f) m w21 (HX.out w21 h21) HS.out
      have HK := hid K
      clear K
      obtain ⟨⟨a0, a1, a2, a3, a4⟩, ⟨x0, x1, x2, x3, x4, x5⟩, q0, q1, q2, q3, q4⟩ := FC.out w21 h21
      go_wp2_with fail
      clear a0 a1 a2 a3 a4 x0 x1 x2 x3 x4 x5 q0 q1 q2 q3 q4
      refine (HK.out).mono ?_
      clear HK
      rintro e w22 ⟨rfl, h⟩
      have h22 := h21.trans h
      clear h
      have HMX2 := HMX
      obtain ⟨MX, hMX⟩ : ∃ MX, minX f m = MX := ⟨_, rfl⟩
      rw [hMX] at HMX
      rw [hMX]
      clear hMX HMX2
      go_upto_region 13 with fail
      go_cut [67] (fun s67 wx => s67 = .bool (MO && LO) ∧ w22 = wx)
      case first =>
       as_aux_lemma =>
        cases MO
        case false =>
          cases LO
          case false =>
            have hx := HMX.out
            simp only [if_true, if_false, Bool.false_eq_true] at hx
            subst hx
            go_wp2_with fail
            go_meet
            exact ⟨rfl, rfl⟩
          case true =>
            have hx := HMX.out
            simp only [if_true, if_false, Bool.false_eq_true] at hx
            subst hx
            go_wp2_with fail
            go_meet
            exact ⟨rfl, rfl⟩
        case true =>
          cases LO
          case false =>
            have hx := HMX.out
            simp only [if_true, if_false, Bool.false_eq_true] at hx
            subst hx
            go_wp2_with fail
            go_meet
            exact ⟨rfl, rfl⟩
          case true =>
            have hx := HMX.out
            simp only [if_true, if_false, Bool.false_eq_true] at hx
            subst hx
            go_wp2_with fail
            go_meet
            exact ⟨rfl, rfl⟩
      case rest =>
        obtain ⟨rfl, hwc⟩ := hcut
        subst hwc
        go_upto_if 67 with fail
        go_cut [14] (fun s14 wx => s14 = .int .i64 AE ∧ w22 = wx)
        case first =>
         as_aux_lemma =>
          cases MO
          case false =>
            cases LO
            case false =>
              have hx := HMX.out
              simp only [if_true, if_false, Bool.false_eq_true] at hx
              subst hx
              have ha := HA1.out
              simp only [if_true, if_false, Bool.false_eq_true] at ha
              subst ha
              go_wp2_with fail
              go_meet
              exact ⟨rfl, rfl⟩
            case true =>
              have hx := HMX.out
              simp only [if_true, if_false, Bool.false_eq_true] at hx
              subst hx
              have ha := HA1.out
              simp only [if_true, if_false, Bool.false_eq_true] at ha
              subst ha
              go_wp2_with fail
              go_meet
              exact ⟨rfl, rfl⟩
          case true =>
            cases LO
            case false =>
              have hx := HMX.out
              simp only [if_true, if_false, Bool.false_eq_true] at hx
              subst hx
              have ha := HA1.out
              simp only [if_true, if_false, Bool.false_eq_true] at ha
              subst ha
              go_wp2_with fail
              go_meet
              exact ⟨rfl, rfl⟩
            case true =>
              have hx := HMX.out
              simp only [if_true, if_false, Bool.false_eq_true] at hx
              subst hx
              have ha := HA1.out
              simp only [if_true, if_false, Bool.false_eq_true] at ha
              subst ha
              go_wp2_with fail
              go_meet
              exact ⟨rfl, rfl⟩
        case rest =>
          obtain ⟨rfl, hwc⟩ := hcut
          subst hwc
          go_upto_if 68 with fail
          go_cut [15] (fun s15 wx => s15 = .int .i64 BE ∧ w22 = wx)
          case first =>
           as_aux_lemma =>
            cases LO
            case false =>
              have ha := HB1.out
              simp only [if_true, if_false, Bool.false_eq_true] at ha
              subst ha
              go_wp2_with fail
              go_meet
              exact ⟨rfl, rfl⟩
            case true =>
              have ha := HB1.out
              simp only [if_true, if_false, Bool.false_eq_true] at ha
              subst ha
              go_wp2_with fail
              go_meet
              exact ⟨rfl, rfl⟩
          case rest =>
            obtain ⟨rfl, hwc⟩ := hcut
            subst hwc
            obtain ⟨⟨a0, a1, a2, a3, a4⟩, ⟨x0, x1, x2, x3, x4, x5⟩, q0, q1, q2, q3, q4⟩ := FC.out w22 h22
            go_upto_block 0 with fail
            go_cut [16] (fun s16 wx => s16 = .int .i64 CE ∧ w22 = wx)
            case first =>
             as_aux_lemma =>
              by_cases c1 : b < 0
              · have HE : Hid (CE = 1) := by
                  have h : BO = false := by rw [← HBO.out]; unfold blOK; rw [inB_not]; omega
                  unfold Hid; rw [HC1.out, h]; rfl
                go_wp2_with fail
                go_meet
                exact ⟨by rw [HE.out], rfl⟩
              by_cases c2 : (f.bl.length : Int) ≤ b
              · have HE : Hid (CE = 1) := by
                  have h : BO = false := by rw [← HBO.out]; unfold blOK; rw [inB_not]; omega
                  unfold Hid; rw [HC1.out, h]; rfl
                go_wp2_with fail
                go_meet
                exact ⟨by rw [HE.out], rfl⟩
              have HE : Hid (CE = if LO then 7 else 0) := by
                have h : BO = true := by rw [← HBO.out]; unfold blOK; rw [inB_iff]; omega
                unfold Hid; rw [HC1.out, h]; rfl
              cases LO
              case false =>
                go_wp2_with fail
                go_meet
                exact ⟨by rw [HE.out]; rfl, rfl⟩
              case true =>
                go_wp2_with fail
                go_meet
                exact ⟨by rw [HE.out]; rfl, rfl⟩
            case rest =>
              obtain ⟨rfl, hwc⟩ := hcut
              subst hwc
              have K := refcart_any _ f (distL f) o w22 (HX.out w22 h22) HS.out
              have HK := hid K
              clear K
              obtain ⟨⟨a0, a1, a2, a3, a4⟩, ⟨x0, x1, x2, x3, x4, x5⟩, q0, q1, q2, q3, q4⟩ := FC.out w22 h22
              go_wp2_with fail
              clear a0 a1 a2 a3 a4 x0 x1 x2 x3 x4 x5 q0 q1 q2 q3 q4
              refine (HK.out).mono ?_
              clear HK
              rintro e w23 ⟨rfl, h⟩
              have h23 := h22.trans h
              clear h
              obtain ⟨OX, hOX⟩ : ∃ OX, cartX f o = OX := ⟨_, rfl⟩
              rw [hOX] at HOX
              rw [hOX]
              clear hOX
              go_upto_region 22 with fail
              go_cut [97] (fun s97 wx => s97 = .bool (OO && (LO || L2)) ∧ Ext Wn wx)
              case first =>
               as_aux_lemma =>
                cases OO
                case false =>
                  have hx := HOX.out
                  simp only [if_false, Bool.false_eq_true] at hx
                  subst hx
                  go_wp2
                  refine wp_region_shut Ext (fun w' => Ext w23 w') (fun _ => none) (by kernel_rfl) (by kernel_rfl) (fun _ _ h k => h.trans k) ?hTto (Ext.drew (Ext.refl w23)) ?_
                  case hTto =>
                    intro i R hR
                    cases hR
                  refine wM_val ?uto0 rfl rfl Ext.refl (fun w' hD => ?hto0) (fun phto0 => ?nto0)
                  case hto0 =>
                    obtain ⟨⟨a0, a1, a2, a3, a4⟩, ⟨x0, x1, x2, x3, x4, x5⟩, q0, q1, q2, q3, q4⟩ := FC.out w' (h23.trans hD.1)
                    go_simp; rfl
                  simp only [Act.put, List.setIfInBounds_toArray, List.set_cons_succ, List.set_cons_zero, Nat.reduceAdd]
                  refine wM_val ?uto1 rfl rfl Ext.refl (fun w' hD => ?hto1) (fun phto1 => ?nto1)
                  case hto1 =>
                    obtain ⟨⟨a0, a1, a2, a3, a4⟩, ⟨x0, x1, x2, x3, x4, x5⟩, q0, q1, q2, q3, q4⟩ := FC.out w' (h23.trans hD.1)
                    go_simp; rfl
                  simp only [Act.put, List.setIfInBounds_toArray, List.set_cons_succ, List.set_cons_zero, Nat.reduceAdd]
                  refine wM_val ?uto2 rfl rfl Ext.refl (fun w' hD => ?hto2) (fun phto2 => ?nto2)
                  case hto2 =>
                    obtain ⟨⟨a0, a1, a2, a3, a4⟩, ⟨x0, x1, x2, x3, x4, x5⟩, q0, q1, q2, q3, q4⟩ := FC.out w' (h23.trans hD.1)
                    go_simp; rfl
                  simp only [Act.put, List.setIfInBounds_toArray, List.set_cons_succ, List.set_cons_zero, Nat.reduceAdd]
                  refine wM_skip rfl ?_
                  simp only [Act.put, List.setIfInBounds_toArray, List.set_cons_succ, List.set_cons_zero, Nat.reduceAdd]
                  refine wM_skip rfl ?_
                  simp only [Act.put, List.setIfInBounds_toArray, List.set_cons_succ, List.set_cons_zero, Nat.reduceAdd]
                  refine wM_skip rfl ?_
                  simp only [Act.put, List.setIfInBounds_toArray, List.set_cons_succ, List.set_cons_zero, Nat.reduceAdd]
                  refine wM_skip rfl ?_
                  simp only [Act.put, List.setIfInBounds_toArray, List.set_cons_succ, List.set_cons_zero, Nat.reduceAdd]
                  refine wM_skip rfl ?_
                  simp only [Act.put, List.setIfInBounds_toArray, List.set_cons_succ, List.set_cons_zero, Nat.reduceAdd]
                  refine wM_skip rfl ?_
                  simp only [Act.put, List.setIfInBounds_toArray, List.set_cons_succ, List.set_cons_zero, Nat.reduceAdd]
                  refine wM_skip rfl ?_
                  simp only [Act.put, List.setIfInBounds_toArray, List.set_cons_succ, List.set_cons_zero, Nat.reduceAdd]
                  refine wM_skip rfl ?_
                  simp only [Act.put, List.setIfInBounds_toArray, List.set_cons_succ, List.set_cons_zero, Nat.reduceAdd]
                  refine wM_skip rfl ?_
                  simp only [Act.put, List.setIfInBounds_toArray, List.set_cons_succ, List.set_cons_zero, Nat.reduceAdd]
                  refine wM_skip rfl ?_
                  simp only [Act.put, List.setIfInBounds_toArray, List.set_cons_succ, List.set_cons_zero, Nat.reduceAdd]
                  refine wM_val ?uto13 rfl rfl Ext.refl (fun w' hD => ?hto13) (fun phto13 => ?nto13)
                  case hto13 =>
                    obtain ⟨⟨a0, a1, a2, a3, a4⟩, ⟨x0, x1, x2, x3, x4, x5⟩, q0, q1, q2, q3, q4⟩ := FC.out w' (h23.trans hD.1)
                    go_simp; rfl
                  simp only [Act.put, List.setIfInBounds_toArray, List.set_cons_succ, List.set_cons_zero, Nat.reduceAdd]
                  refine wM_nil ?_
                  intro w9 hw9 hF9
                  clear hF9
                  go_wp2_with fail
                  go_meet
                  exact ⟨rfl, h23.trans hw9⟩
                case true =>
                  have hx := HOX.out
                  simp only [if_true] at hx
                  subst hx
                  cases LO
                  case true =>
                    go_wp2
                    refine wp_region_shut Ext (fun w' => Ext w23 w') (fun _ => none) (by kernel_rfl) (by kernel_rfl) (fun _ _ h k => h.trans k) ?hTtl (Ext.drew (Ext.refl w23)) ?_
                    case hTtl =>
                      intro i R hR
                      cases hR
                    refine wM_val ?utl0 rfl rfl Ext.refl (fun w' hD => ?htl0) (fun phtl0 => ?ntl0)
                    case htl0 =>
                      obtain ⟨⟨a0, a1, a2, a3, a4⟩, ⟨x0, x1, x2, x3, x4, x5⟩, q0, q1, q2, q3, q4⟩ := FC.out w' (h23.trans hD.1)
                      go_simp; rfl
                    simp only [Act.put, List.setIfInBounds_toArray, List.set_cons_succ, List.set_cons_zero, Nat.reduceAdd]
                    refine wM_val ?utl1 rfl rfl Ext.refl (fun w' hD => ?htl1) (fun phtl1 => ?ntl1)
                    case htl1 =>
                      obtain ⟨⟨a0, a1, a2, a3, a4⟩, ⟨x0, x1, x2, x3, x4, x5⟩, q0, q1, q2, q3, q4⟩ := FC.out w' (h23.trans hD.1)
                      go_simp; rfl
                    simp only [Act.put, List.setIfInBounds_toArray, List.set_cons_succ, List.set_cons_zero, Nat.reduceAdd]
                    refine wM_val ?utl2 rfl rfl Ext.refl (fun w' hD => ?htl2) (fun phtl2 => ?ntl2)
                    case htl2 =>
                      obtain ⟨⟨a0, a1, a2, a3, a4⟩, ⟨x0, x1, x2, x3, x4, x5⟩, q0, q1, q2, q3, q4⟩ := FC.out w' (h23.trans hD.1)
                      go_simp; rfl
                    simp only [Act.put, List.setIfInBounds_toArray, List.set_cons_succ, List.set_cons_zero, Nat.reduceAdd]
                    refine wM_val ?utl3 rfl rfl Ext.refl (fun w' hD => ?htl3) (fun phtl3 => ?ntl3)
                    case htl3 =>
                      obtain ⟨⟨a0, a1, a2, a3, a4⟩, ⟨x0, x1, x2, x3, x4, x5⟩, q0, q1, q2, q3, q4⟩ := FC.out w' (h23.trans hD.1)
                      go_simp; rfl
                    simp only [Act.put, List.setIfInBounds_toArray, List.set_cons_succ, List.set_cons_zero, Nat.reduceAdd]
                    refine wM_val ?utl4 rfl rfl Ext.refl (fun w' hD => ?htl4) (fun phtl4 => ?ntl4)
                    case htl4 =>
                      obtain ⟨⟨a0, a1, a2, a3, a4⟩, ⟨x0, x1, x2, x3, x4, x5⟩, q0, q1, q2, q3, q4⟩ := FC.out w' (h23.trans hD.1)
                      go_simp; rfl
                    simp only [Act.put, List.setIfInBounds_toArray, List.set_cons_succ, List.set_cons_zero, Nat.reduceAdd]
                    refine wM_skip rfl ?_
                    simp only [Act.put, List.setIfInBounds_toArray, List.set_cons_succ, List.set_cons_zero, Nat.reduceAdd]
                    refine wM_skip rfl ?_
                    simp only [Act.put, List.setIfInBounds_toArray, List.set_cons_succ, List.set_cons_zero, Nat.reduceAdd]
                    refine wM_skip rfl ?_
                    simp only [Act.put, List.setIfInBounds_toArray, List.set_cons_succ, List.set_cons_zero, Nat.reduceAdd]
                    refine wM_skip rfl ?_
                    simp only [Act.put, List.setIfInBounds_toArray, List.set_cons_succ, List.set_cons_zero, Nat.reduceAdd]
                    refine wM_skip rfl ?_
                    simp only [Act.put, List.setIfInBounds_toArray, List.set_cons_succ, List.set_cons_zero, Nat.reduceAdd]
                    refine wM_skip rfl ?_
                    simp only [Act.put, List.setIfInBounds_toArray, List.set_cons_succ, List.set_cons_zero, Nat.reduceAdd]
                    refine wM_skip rfl ?_
                    simp only [Act.put, List.setIfInBounds_toArray, List.set_cons_succ, List.set_cons_zero, Nat.reduceAdd]
                    refine wM_val ?utl12 rfl rfl Ext.refl (fun w' hD => ?htl12) (fun phtl12 => ?ntl12)
                    case htl12 =>
                      obtain ⟨⟨a0, a1, a2, a3, a4⟩, ⟨x0, x1, x2, x3, x4, x5⟩, q0, q1, q2, q3, q4⟩ := FC.out w' (h23.trans hD.1)
                      go_simp; rfl
                    simp only [Act.put, List.setIfInBounds_toArray, List.set_cons_succ, List.set_cons_zero, Nat.reduceAdd]
                    refine wM_val ?utl13 rfl rfl Ext.refl (fun w' hD => ?htl13) (fun phtl13 => ?ntl13)
                    case htl13 =>
                      obtain ⟨⟨a0, a1, a2, a3, a4⟩, ⟨x0, x1, x2, x3, x4, x5⟩, q0, q1, q2, q3, q4⟩ := FC.out w' (h23.trans hD.1)
                      go_simp; rfl
                    simp only [Act.put, List.setIfInBounds_toArray, List.set_cons_succ, List.set_cons_zero, Nat.reduceAdd]
                    refine wM_nil ?_
                    intro w9 hw9 hF9
                    clear hF9
                    go_wp2_with fail
                    go_meet
                    exact ⟨rfl, h23.trans hw9⟩
                  case false =>
                    obtain ⟨on, c2, hon, hcg2, hca2⟩ := cartP_ct HOO.out
                    subst hon
                    have HCG2 := hid hcg2
                    have h82 := HOK.out.rn c2 (mem_of_get hcg2)
                    obtain ⟨CV2, hCV2⟩ : ∃ CV2, countM (farM f) f c2 allF = CV2 := ⟨_, rfl⟩
                    have HCVB2 : Hid ((CV2 == 0) = L2) := by
                      unfold Hid; rw [← HL2.out, hca2, ← hCV2]; unfold lostF
                      rw [Bool.eq_iff_iff]; simp
                    have KC2 : Hid (∀ w', Ext w23 w' → Calls Tryz.prog 36 #[.agg #[.int .i64 f.pl, .int .i64 f.mi, .slice a5 f.tr.length q5, .slice b5 f.bl.length r5, .slice c5 f.ct.length t5, .slice A5 n5 k5], .int .i64 (on : Int), .int .i64 (everyN c2 : Nat)] w' fun e w2 => e = .returned (.int .i64 CV2) ∧ Ext w' w2) := fun w' h => by
                      have K := refcount_any _ f on c2 (everyN c2) w' (HX.out w' (h23.trans h)) HS.out HOK.out HCG2.out (every_lt h82)
                      rw [count_all, hCV2] at K
                      exact K
                    clear hcg2 hca2 hCV2
                    go_wp2
                    refine wp_region_shut Ext (fun w' => Ext w23 w') (fun
                      | 9 => some (fun v w' => v = .int .i64 (everyN c2 : Nat))
                      | 10 => some (fun v w' => v = .int .i64 CV2)
                      | _ => none) (by kernel_rfl) (by kernel_rfl) (fun _ _ h k => h.trans k) ?hTta (Ext.drew (Ext.refl w23)) ?_
                    case hTta =>
                      intro i R hR
                      match i, hR with
                      | 9, hR => cases hR; exact fun _ _ _ h _ => h
                      | 10, hR => cases hR; exact fun _ _ _ h _ => h
                    refine wM_val ?uta0 rfl rfl Ext.refl (fun w' hD => ?hta0) (fun phta0 => ?nta0)
                    case hta0 =>
                      obtain ⟨⟨a0, a1, a2, a3, a4⟩, ⟨x0, x1, x2, x3, x4, x5⟩, q0, q1, q2, q3, q4⟩ := FC.out w' (h23.trans hD.1)
                      go_simp; rfl
                    simp only [Act.put, List.setIfInBounds_toArray, List.set_cons_succ, List.set_cons_zero, Nat.reduceAdd]
                    refine wM_val ?uta1 rfl rfl Ext.refl (fun w' hD => ?hta1) (fun phta1 => ?nta1)
                    case hta1 =>
                      obtain ⟨⟨a0, a1, a2, a3, a4⟩, ⟨x0, x1, x2, x3, x4, x5⟩, q0, q1, q2, q3, q4⟩ := FC.out w' (h23.trans hD.1)
                      go_simp; rfl
                    simp only [Act.put, List.setIfInBounds_toArray, List.set_cons_succ, List.set_cons_zero, Nat.reduceAdd]
                    refine wM_val ?uta2 rfl rfl Ext.refl (fun w' hD => ?hta2) (fun phta2 => ?nta2)
                    case hta2 =>
                      obtain ⟨⟨a0, a1, a2, a3, a4⟩, ⟨x0, x1, x2, x3, x4, x5⟩, q0, q1, q2, q3, q4⟩ := FC.out w' (h23.trans hD.1)
                      go_simp; rfl
                    simp only [Act.put, List.setIfInBounds_toArray, List.set_cons_succ, List.set_cons_zero, Nat.reduceAdd]
                    refine wM_val ?uta3 rfl rfl Ext.refl (fun w' hD => ?hta3) (fun phta3 => ?nta3)
                    case hta3 =>
                      obtain ⟨⟨a0, a1, a2, a3, a4⟩, ⟨x0, x1, x2, x3, x4, x5⟩, q0, q1, q2, q3, q4⟩ := FC.out w' (h23.trans hD.1)
                      go_simp; rfl
                    simp only [Act.put, List.setIfInBounds_toArray, List.set_cons_succ, List.set_cons_zero, Nat.reduceAdd]
                    refine wM_val ?uta4 rfl rfl Ext.refl (fun w' hD => ?hta4) (fun phta4 => ?nta4)
                    case hta4 =>
                      obtain ⟨⟨a0, a1, a2, a3, a4⟩, ⟨x0, x1, x2, x3, x4, x5⟩, q0, q1, q2, q3, q4⟩ := FC.out w' (h23.trans hD.1)
                      go_simp; rfl
                    simp only [Act.put, List.setIfInBounds_toArray, List.set_cons_succ, List.set_cons_zero, Nat.reduceAdd]
                    refine wM_val ?uta5 rfl rfl Ext.refl (fun w' hD => ?hta5) (fun phta5 => ?nta5)
                    case hta5 =>
                      obtain ⟨⟨a0, a1, a2, a3, a4⟩, ⟨x0, x1, x2, x3, x4, x5⟩, q0, q1, q2, q3, q4⟩ := FC.out w' (h23.trans hD.1)
                      go_simp; rfl
                    simp only [Act.put, List.setIfInBounds_toArray, List.set_cons_succ, List.set_cons_zero, Nat.reduceAdd]
                    refine wM_val ?uta6 rfl rfl Ext.refl (fun w' hD => ?hta6) (fun phta6 => ?nta6)
                    case hta6 =>
                      obtain ⟨⟨a0, a1, a2, a3, a4⟩, ⟨x0, x1, x2, x3, x4, x5⟩, q0, q1, q2, q3, q4⟩ := FC.out w' (h23.trans hD.1)
                      go_simp; rfl
                    simp only [Act.put, List.setIfInBounds_toArray, List.set_cons_succ, List.set_cons_zero, Nat.reduceAdd]
                    refine wM_val ?uta7 rfl rfl Ext.refl (fun w' hD => ?hta7) (fun phta7 => ?nta7)
                    case hta7 =>
                      obtain ⟨⟨a0, a1, a2, a3, a4⟩, ⟨x0, x1, x2, x3, x4, x5⟩, q0, q1, q2, q3, q4⟩ := FC.out w' (h23.trans hD.1)
                      go_simp; rfl
                    simp only [Act.put, List.setIfInBounds_toArray, List.set_cons_succ, List.set_cons_zero, Nat.reduceAdd]
                    refine wM_val ?uta8 rfl rfl Ext.refl (fun w' hD => ?hta8) (fun phta8 => ?nta8)
                    case hta8 =>
                      obtain ⟨⟨a0, a1, a2, a3, a4⟩, ⟨x0, x1, x2, x3, x4, x5⟩, q0, q1, q2, q3, q4⟩ := FC.out w' (h23.trans hD.1)
                      go_simp; rfl
                    simp only [Act.put, List.setIfInBounds_toArray, List.set_cons_succ, List.set_cons_zero, Nat.reduceAdd]
                    refine wM_op _ rfl rfl (opens_call ?fta9 ?gta9 (fun w' hD => ?hta9) (fun w' hD => ?cta9)) (fun v9 hv9 => ?nta9)
                    case hta9 => go_simp; constructor <;> rfl
                    case cta9 =>
                      refine (refevery_any _ f (distL f) on c2 w' (HX.out w' (h23.trans hD.1)) HCG2.out h82).mono ?_
                      rintro e w2 ⟨rfl, hb⟩
                      exact ⟨_, rfl, hb, rfl⟩
                    obtain ⟨_, -, -, rfl⟩ := hv9
                    simp only [Act.put, List.setIfInBounds_toArray, List.set_cons_succ, List.set_cons_zero, Nat.reduceAdd]
                    refine wM_op _ rfl rfl (opens_call ?fta10 ?gta10 (fun w' hD => ?hta10) (fun w' hD => ?cta10)) (fun v10 hv10 => ?nta10)
                    case hta10 => go_simp; constructor <;> rfl
                    case cta10 =>
                      refine (KC2.out w' hD.1).mono ?_
                      rintro e w2 ⟨rfl, hb⟩
                      exact ⟨_, rfl, hb, rfl⟩
                    obtain ⟨_, -, -, rfl⟩ := hv10
                    simp only [Act.put, List.setIfInBounds_toArray, List.set_cons_succ, List.set_cons_zero, Nat.reduceAdd]
                    refine wM_val ?uta11 rfl rfl Ext.refl (fun w' hD => ?hta11) (fun phta11 => ?nta11)
                    case hta11 =>
                      obtain ⟨⟨a0, a1, a2, a3, a4⟩, ⟨x0, x1, x2, x3, x4, x5⟩, q0, q1, q2, q3, q4⟩ := FC.out w' (h23.trans hD.1)
                      go_simp; rfl
                    simp only [Act.put, List.setIfInBounds_toArray, List.set_cons_succ, List.set_cons_zero, Nat.reduceAdd]
                    refine wM_val ?uta12 rfl rfl Ext.refl (fun w' hD => ?hta12) (fun phta12 => ?nta12)
                    case hta12 =>
                      obtain ⟨⟨a0, a1, a2, a3, a4⟩, ⟨x0, x1, x2, x3, x4, x5⟩, q0, q1, q2, q3, q4⟩ := FC.out w' (h23.trans hD.1)
                      go_simp; rfl
                    simp only [Act.put, List.setIfInBounds_toArray, List.set_cons_succ, List.set_cons_zero, Nat.reduceAdd]
                    refine wM_val ?uta13 rfl rfl Ext.refl (fun w' hD => ?hta13) (fun phta13 => ?nta13)
                    case hta13 =>
                      obtain ⟨⟨a0, a1, a2, a3, a4⟩, ⟨x0, x1, x2, x3, x4, x5⟩, q0, q1, q2, q3, q4⟩ := FC.out w' (h23.trans hD.1)
                      go_simp; rfl
                    simp only [Act.put, List.setIfInBounds_toArray, List.set_cons_succ, List.set_cons_zero, Nat.reduceAdd]
                    refine wM_nil ?_
                    intro w9 hw9 hF9
                    clear hF9
                    try rw [HCVB2.out]
                    go_wp2_with fail
                    go_meet
                    exact ⟨by first | rfl | (rw [HCVB2.out]; rfl), h23.trans hw9⟩
              case rest =>
                obtain ⟨rfl, h24⟩ := hcut
                obtain ⟨w24, hw24⟩ : ∃ w24, w24 = wc := ⟨_, rfl⟩
                subst hw24
                as_aux_lemma =>
                 cases OO
                 case false =>
                   cases LO
                   case false =>
                     cases L2
                     case false =>
                       have hx := HOX.out
                       simp only [if_true, if_false, Bool.false_eq_true] at hx
                       subst hx
                       have ha := HD1.out
                       simp only [if_true, if_false, Bool.false_eq_true, Bool.false_or, Bool.true_or, Bool.or_false, Bool.or_true] at ha
                       subst ha
                       go_wp2_with fail
                       go_meet
                       exact ⟨rfl, rfl, rfl, rfl, h24⟩
                     case true =>
                       have hx := HOX.out
                       simp only [if_true, if_false, Bool.false_eq_true] at hx
                       subst hx
                       have ha := HD1.out
                       simp only [if_true, if_false, Bool.false_eq_true, Bool.false_or, Bool.true_or, Bool.or_false, Bool.or_true] at ha
                       subst ha
                       go_wp2_with fail
                       go_meet
                       exact ⟨rfl, rfl, rfl, rfl, h24⟩
                   case true =>
                     cases L2
                     case false =>
                       have hx := HOX.out
                       simp only [if_true, if_false, Bool.false_eq_true] at hx
                       subst hx
                       have ha := HD1.out
                       simp only [if_true, if_false, Bool.false_eq_true, Bool.false_or, Bool.true_or, Bool.or_false, Bool.or_true] at ha
                       subst ha
                       go_wp2_with fail
                       go_meet
                       exact ⟨rfl, rfl, rfl, rfl, h24⟩
                     case true =>
                       have hx := HOX.out
                       simp only [if_true, if_false, Bool.false_eq_true] at hx
                       subst hx
                       have ha := HD1.out
                       simp only [if_true, if_false, Bool.false_eq_true, Bool.false_or, Bool.true_or, Bool.or_false, Bool.or_true] at ha
                       subst ha
                       go_wp2_with fail
                       go_meet
                       exact ⟨rfl, rfl, rfl, rfl, h24⟩
                 case true =>
                   cases LO
                   case false =>
                     cases L2
                     case false =>
                       have hx := HOX.out
                       simp only [if_true, if_false, Bool.false_eq_true] at hx
                       subst hx
                       have ha := HD1.out
                       simp only [if_true, if_false, Bool.false_eq_true, Bool.false_or, Bool.true_or, Bool.or_false, Bool.or_true] at ha
                       subst ha
                       go_wp2_with fail
                       go_meet
                       exact ⟨rfl, rfl, rfl, rfl, h24⟩
                     case true =>
                       have hx := HOX.out
                       simp only [if_true, if_false, Bool.false_eq_true] at hx
                       subst hx
                       have ha := HD1.out
                       simp only [if_true, if_false, Bool.false_eq_true, Bool.false_or, Bool.true_or, Bool.or_false, Bool.or_true] at ha
                       subst ha
                       go_wp2_with fail
                       go_meet
                       exact ⟨rfl, rfl, rfl, rfl, h24⟩
                   case true =>
                     cases L2
                     case false =>
                       have hx := HOX.out
                       simp only [if_true, if_false, Bool.false_eq_true] at hx
                       subst hx
                       have ha := HD1.out
                       simp only [if_true, if_false, Bool.false_eq_true, Bool.false_or, Bool.true_or, Bool.or_false, Bool.or_true] at ha
                       subst ha
                       go_wp2_with fail
                       go_meet
                       exact ⟨rfl, rfl, rfl, rfl, h24⟩
                     case true =>
                       have hx := HOX.out
                       simp only [if_true, if_false, Bool.false_eq_true] at hx
                       subst hx
                       have ha := HD1.out
                       simp only [if_true, if_false, Bool.false_eq_true, Bool.false_or, Bool.true_or, Bool.or_false, Bool.or_true] at ha
                       subst ha
                       go_wp2_with fail
                       go_meet
                       exact ⟨rfl, rfl, rfl, rfl, h24⟩
    case rest =>
      clear a0 a1 a2 a3 a4 x0 x1 x2 x3 x4 x5 q0 q1 q2 q3 q4
      obtain ⟨rfl, rfl, rfl, rfl, h30⟩ := hcut
      obtain ⟨w30, hw30⟩ : ∃ w30, w30 = wc := ⟨_, rfl⟩
      subst hw30
      obtain ⟨⟨a0, a1, a2, a3, a4⟩, ⟨x0, x1, x2, x3, x4, x5⟩, q0, q1, q2, q3, q4⟩ := FC.out w30 h30
      go_upto_if 99 with fail
      go_cut [18] (fun s18 wx => (∃ A q, s18 = .slice A LA.length q ∧ Ints wx A LA) ∧ Ext w30 wx)
      case first =>
       as_aux_lemma =>
        by_cases hA0 : AE = 0
        case neg =>
          have bA : (AE == 0) = false := by simpa using hA0
          have HLE : Hid (LA = []) := by unfold Hid; rw [← H_LA.out]; unfold atL; rw [H_AE.out, if_neg hA0]
          go_wp2_with fail
          go_meet
          exact ⟨⟨none, 0, by rw [HLE.out]; rfl, by rw [HLE.out]; exact Ints.nil _ _⟩, Ext.refl _⟩
        subst hA0
        have HE0 : Hid (cartE f k = 0 ∧ miOK f m = true) := by
          have h := H_AE.out
          unfold atE at h
          by_cases e : cartE f k = 0
          · rw [if_neg (fun x => x e)] at h
            refine ⟨e, ?_⟩
            cases hq : miOK f m
            · rw [hq] at h; simp at h
            · rfl
          · rw [if_pos e] at h; exact absurd h e
        obtain ⟨kn, c, hkn, hcg, hca, hok⟩ := cartP_at HE0.out.1
        subst hkn
        have HOK := hid hok
        have hdd := HD5.out (cartE_ok HE0.out.1).1
        subst hdd
        have HCG := hid hcg
        have hmm := inB_iff.1 HE0.out.2
        have hmi := HOK.out.mi
        obtain ⟨mn, rfl⟩ : ∃ mn : Nat, m = mn := ⟨m.toNat, by omega⟩
        have HLE : Hid (natI (canN (farM f) f c mn) = LA) := by unfold Hid; rw [← H_LA.out]; unfold atL; rw [H_AE.out, if_pos rfl, hca, Int.toNat_natCast]
        have hmn : mn ≤ f.mi.toNat := by omega
        clear hcg hca hok hmm
        clear a0 a1 a2 a3 a4 x0 x1 x2 x3 x4 x5 q0 q1 q2 q3 q4
        have K := refcan_any _ f kn c w30 (HX.out w30 h30) HS.out HOK.out HCG.out
        have HK := hid K
        clear K
        obtain ⟨⟨a0, a1, a2, a3, a4⟩, ⟨x0, x1, x2, x3, x4, x5⟩, q0, q1, q2, q3, q4⟩ := FC.out w30 h30
        go_wp2_with fail
        clear a0 a1 a2 a3 a4 x0 x1 x2 x3 x4 x5 q0 q1 q2 q3 q4
        refine (HK.out).mono ?_
        clear HK
        rintro e w31 ⟨A9, k9, rfl, h, hI9, hk9⟩
        have h31 := h30.trans h
        have x31 := h
        clear h
        obtain ⟨rb, ro, A7, k7, eA9, g0, hI7, hk7⟩ := hI9.at_ (canL_get hmn)
        cases eA9
        rw [HLE.out] at g0 hI7
        have hmi2 : (mn : Int) < (f.mi.toNat : Int) + 1 := by omega
        have HI7 := hid hI7
        clear hI7 hk7 hI9 hk9
        go_wp2_with fail
        go_meet
        exact ⟨⟨_, _, rfl, HI7.out⟩, x31⟩
      case rest =>
        clear a0 a1 a2 a3 a4 x0 x1 x2 x3 x4 x5 q0 q1 q2 q3 q4
        obtain ⟨⟨A18, q18, rfl, hI18⟩, x40⟩ := hcut
        have h40 := h30.trans x40
        obtain ⟨w40, hw40⟩ : ∃ w40, w40 = wc := ⟨_, rfl⟩
        subst hw40
        have HI18 : Hid (∀ w', Ext w40 w' → Ints w' A18 LA) := fun w' h => hI18.ext h
        clear hI18 x40
        obtain ⟨⟨a0, a1, a2, a3, a4⟩, ⟨x0, x1, x2, x3, x4, x5⟩, q0, q1, q2, q3, q4⟩ := FC.out w40 h40
        go_upto_if 107 with fail
        go_cut [20] (fun s20 wx => s20 = .int .i64 SV ∧ Ext w40 wx)
        case first =>
         as_aux_lemma =>
          by_cases hA0 : BE = 0
          case neg =>
            have bA : (BE == 0) = false := by simpa using hA0
            have HLE : Hid (SV = 0) := by unfold Hid; rw [← H_SV.out]; unfold stillV; rw [H_BE.out, if_neg hA0]
            go_wp2_with fail
            go_meet
            exact ⟨by rw [HLE.out], Ext.refl _⟩
          subst hA0
          have HE0 : Hid (cartE f k = 0 ∧ lostF (farM f) f (ctAt f k) = false) := by
            have h := H_BE.out
            unfold stillE at h
            by_cases e : cartE f k = 0
            · rw [if_neg (fun x => x e)] at h
              refine ⟨e, ?_⟩
              cases hq : lostF (farM f) f (ctAt f k)
              · rfl
              · rw [hq] at h; simp at h
            · rw [if_pos e] at h; exact absurd h e
          obtain ⟨kn, c, hkn, hcg, hca, hok⟩ := cartP_at HE0.out.1
          subst hkn
          have HOK := hid hok
          have hdd := HD5.out (cartE_ok HE0.out.1).1
          subst hdd
          have HCG := hid hcg
          have HLE : Hid (stillR (farM f) f c = SV) := by
            have h1 := HE0.out.2
            rw [hca] at h1
            obtain ⟨p, hp⟩ := can_some hok (mem_of_get hcg) h1 f.mi.toNat (Nat.le_refl _)
            rw [Nat.sub_self] at hp
            unfold Hid; rw [← H_SV.out]; unfold stillV; rw [H_BE.out, if_pos rfl, hca, still_is ⟨p, hp⟩]
          clear hcg hca hok
          clear a0 a1 a2 a3 a4 x0 x1 x2 x3 x4 x5 q0 q1 q2 q3 q4
          have K := refstill_any _ f kn c w40 (HX.out w40 h40) HS.out HOK.out HCG.out
          rw [HLE.out] at K
          have HK := hid K
          clear K
          obtain ⟨⟨a0, a1, a2, a3, a4⟩, ⟨x0, x1, x2, x3, x4, x5⟩, q0, q1, q2, q3, q4⟩ := FC.out w40 h40
          go_wp2_with fail
          clear a0 a1 a2 a3 a4 x0 x1 x2 x3 x4 x5 q0 q1 q2 q3 q4
          refine (HK.out).mono ?_
          clear HK
          rintro e w41 ⟨rfl, h⟩
          have h41 := h40.trans h
          have x41 := h
          clear h
          go_wp2_with fail
          go_meet
          exact ⟨rfl, x41⟩
        case rest =>
          clear a0 a1 a2 a3 a4 x0 x1 x2 x3 x4 x5 q0 q1 q2 q3 q4
          obtain ⟨rfl, x50⟩ := hcut
          have h50 := h40.trans x50
          obtain ⟨w50, hw50⟩ : ∃ w50, w50 = wc := ⟨_, rfl⟩
          subst hw50
          have HJ18 : Hid (∀ w', Ext w50 w' → Ints w' A18 LA) := fun w' h => HI18.out w' (x50.trans h)
          clear HI18 x50
          obtain ⟨⟨a0, a1, a2, a3, a4⟩, ⟨x0, x1, x2, x3, x4, x5⟩, q0, q1, q2, q3, q4⟩ := FC.out w50 h50
          go_upto_if 112 with fail
          go_cut [21, 22] (fun s21 s22 wx => s21 = .bool HA ∧ s22 = .bool HN ∧ Ext w50 wx)
          case first =>
           as_aux_lemma =>
            by_cases hA0 : CE = 0
            case neg =>
              have bA : (CE == 0) = false := by simpa using hA0
              have HLE : Hid (HA = false ∧ HN = false) := by unfold Hid; rw [← H_HA.out, ← H_HN.out]; unfold heardA heardN; rw [H_CE.out, decide_eq_false hA0]; exact ⟨rfl, rfl⟩
              go_wp2_with fail
              go_meet
              exact ⟨by rw [HLE.out.1], by rw [HLE.out.2], Ext.refl _⟩
            subst hA0
            have HE0 : Hid (cartE f k = 0 ∧ blOK f b = true) := by
              have h := H_CE.out
              unfold heardE at h
              by_cases e : cartE f k = 0
              · rw [if_neg (fun x => x e)] at h
                refine ⟨e, ?_⟩
                cases hq : blOK f b
                · rw [hq] at h; simp at h
                · rfl
              · rw [if_pos e] at h; exact absurd h e
            obtain ⟨kn, c, hkn, hcg, hca, hok⟩ := cartP_at HE0.out.1
            subst hkn
            have HOK := hid hok
            have hdd := HD5.out (cartE_ok HE0.out.1).1
            subst hdd
            have HCG := hid hcg
            obtain ⟨bn, xb, hbn, hbg, hba⟩ := cartP_bl HE0.out.2
            subst hbn
            have HBG := hid hbg
            have HLE : Hid ((canN (farM f) f c xb.mi.toNat).all (heardM (farM f) xb) = HA ∧ (!(canN (farM f) f c xb.mi.toNat).any (heardM (farM f) xb)) = HN) := by
              unfold Hid; rw [← H_HA.out, ← H_HN.out]; unfold heardA heardN; rw [H_CE.out, hca, hba]; exact ⟨rfl, rfl⟩
            clear hcg hca hok hbg hba
            clear a0 a1 a2 a3 a4 x0 x1 x2 x3 x4 x5 q0 q1 q2 q3 q4
            have K := refheard_any _ f kn bn c xb w50 (HX.out w50 h50) HS.out HOK.out HCG.out HBG.out
            rw [HLE.out.1, HLE.out.2] at K
            have HK := hid K
            clear K
            obtain ⟨⟨a0, a1, a2, a3, a4⟩, ⟨x0, x1, x2, x3, x4, x5⟩, q0, q1, q2, q3, q4⟩ := FC.out w50 h50
            go_wp2_with fail
            clear a0 a1 a2 a3 a4 x0 x1 x2 x3 x4 x5 q0 q1 q2 q3 q4
            refine (HK.out).mono ?_
            clear HK
            rintro e w51 ⟨rfl, h⟩
            have h51 := h50.trans h
            have x51 := h
            clear h
            go_wp2_with fail
            go_meet
            exact ⟨rfl, rfl, x51⟩
          case rest =>
            clear a0 a1 a2 a3 a4 x0 x1 x2 x3 x4 x5 q0 q1 q2 q3 q4
            obtain ⟨rfl, rfl, x60⟩ := hcut
            have h60 := h50.trans x60
            obtain ⟨w60, hw60⟩ : ∃ w60, w60 = wc := ⟨_, rfl⟩
            subst hw60
            have HI18 : Hid (∀ w', Ext w60 w' → Ints w' A18 LA) := fun w' h => HJ18.out w' (x60.trans h)
            clear HJ18 x60
            obtain ⟨⟨a0, a1, a2, a3, a4⟩, ⟨x0, x1, x2, x3, x4, x5⟩, q0, q1, q2, q3, q4⟩ := FC.out w60 h60
            go_upto_if 121 with fail
            go_cut [19] (fun s19 wx => (∃ A q, s19 = .slice A LM.length q ∧ Ints wx A LM) ∧ Ext w60 wx)
            case first =>
             as_aux_lemma =>
              by_cases hA0 : DE = 0
              case neg =>
                have bA : (DE == 0) = false := by simpa using hA0
                have HLE : Hid (LM = []) := by unfold Hid; rw [← H_LM.out]; unfold metV; rw [H_DE.out, if_neg hA0]
                go_wp2_with fail
                go_meet
                exact ⟨⟨none, 0, by rw [HLE.out]; rfl, by rw [HLE.out]; exact Ints.nil _ _⟩, Ext.refl _⟩
              subst hA0
              have HE0 : Hid (cartE f k = 0 ∧ ctOK f o = true) := by
                have h := H_DE.out
                unfold metE at h
                by_cases e : cartE f k = 0
                · rw [if_neg (fun x => x e)] at h
                  refine ⟨e, ?_⟩
                  cases hq : ctOK f o
                  · rw [hq] at h; simp at h
                  · rfl
                · rw [if_pos e] at h; exact absurd h e
              obtain ⟨kn, c, hkn, hcg, hca, hok⟩ := cartP_at HE0.out.1
              subst hkn
              have HOK := hid hok
              have hdd := HD5.out (cartE_ok HE0.out.1).1
              subst hdd
              have HCG := hid hcg
              obtain ⟨on, c2, hon, hcg2, hca2⟩ := cartP_ct HE0.out.2
              subst hon
              have HCG2 := hid hcg2
              have HLE : Hid (metM (farM f) f c c2 = LM) := by unfold Hid; rw [← H_LM.out]; unfold metV; rw [H_DE.out, if_pos rfl, hca, hca2]
              clear hcg hca hok hcg2 hca2
              clear a0 a1 a2 a3 a4 x0 x1 x2 x3 x4 x5 q0 q1 q2 q3 q4
              have K := refmet_any _ f kn on c c2 w60 (HX.out w60 h60) HS.out HOK.out HCG.out HCG2.out
              rw [HLE.out] at K
              have HK := hid K
              clear K
              obtain ⟨⟨a0, a1, a2, a3, a4⟩, ⟨x0, x1, x2, x3, x4, x5⟩, q0, q1, q2, q3, q4⟩ := FC.out w60 h60
              go_wp2_with fail
              clear a0 a1 a2 a3 a4 x0 x1 x2 x3 x4 x5 q0 q1 q2 q3 q4
              refine (HK.out).mono ?_
              clear HK
              rintro e w61 ⟨A9, k9, rfl, h, hI9⟩
              have h61 := h60.trans h
              have x61 := h
              clear h
              go_wp2_with fail
              go_meet
              exact ⟨⟨_, _, rfl, hI9⟩, x61⟩
            case rest =>
              clear a0 a1 a2 a3 a4 x0 x1 x2 x3 x4 x5 q0 q1 q2 q3 q4
              obtain ⟨⟨A19, q19, rfl, hI19⟩, x70⟩ := hcut
              have h70 := h60.trans x70
              obtain ⟨w70, hw70⟩ : ∃ w70, w70 = wc := ⟨_, rfl⟩
              subst hw70
              have HJ18 : Hid (∀ w', Ext w70 w' → Ints w' A18 LA) := fun w' h => HI18.out w' (x70.trans h)
              have HJ19 : Hid (∀ w', Ext w70 w' → Ints w' A19 LM) := fun w' h => hI19.ext h
              clear HI18 x70 hI19
              have K := at_any _ f k m w70 (HO.out w70 h70) HS.out
              have HK := hid K
              clear K
              obtain ⟨⟨a0, a1, a2, a3, a4⟩, ⟨x0, x1, x2, x3, x4, x5⟩, q0, q1, q2, q3, q4⟩ := FC.out w70 h70
              go_wp2_with fail
              clear a0 a1 a2 a3 a4 x0 x1 x2 x3 x4 x5 q0 q1 q2 q3 q4
              refine (HK.out).mono ?_
              clear HK
              rintro e w71 ⟨r71, rfl, h, A24, k24, rfl, hI24, hk24⟩
              have h71 := h70.trans h
              rw [H_AE.out]
              rw [H_LA.out] at hI24
              have HI24 := hid hI24
              have x71 := h
              rw [H_LA.out]
              clear hI24 hk24
              clear h
              have K := still_any _ f k w71 (HO.out w71 h71) HS.out
              have HK := hid K
              clear K
              obtain ⟨⟨a0, a1, a2, a3, a4⟩, ⟨x0, x1, x2, x3, x4, x5⟩, q0, q1, q2, q3, q4⟩ := FC.out w71 h71
              go_wp2_with fail
              clear a0 a1 a2 a3 a4 x0 x1 x2 x3 x4 x5 q0 q1 q2 q3 q4
              refine (HK.out).mono ?_
              clear HK
              rintro e w72 ⟨rfl, h⟩
              have h72 := h71.trans h
              rw [H_SV.out, H_BE.out]
              have x72 := h
              clear h
              have K := heardx_any _ f k b w72 (HO.out w72 h72) HS.out
              rw [H_HA.out, H_HN.out, H_CE.out] at K
              have HK := hid K
              clear K
              obtain ⟨⟨a0, a1, a2, a3, a4⟩, ⟨x0, x1, x2, x3, x4, x5⟩, q0, q1, q2, q3, q4⟩ := FC.out w72 h72
              go_wp2_with fail
              clear a0 a1 a2 a3 a4 x0 x1 x2 x3 x4 x5 q0 q1 q2 q3 q4
              refine (HK.out).mono ?_
              clear HK
              rintro e w73 ⟨rfl, h⟩
              have h73 := h72.trans h
              have x73 := h
              clear h
              have K := metx_any _ f k o w73 (HO.out w73 h73) HS.out
              have HK := hid K
              clear K
              obtain ⟨⟨a0, a1, a2, a3, a4⟩, ⟨x0, x1, x2, x3, x4, x5⟩, q0, q1, q2, q3, q4⟩ := FC.out w73 h73
              go_wp2_with fail
              clear a0 a1 a2 a3 a4 x0 x1 x2 x3 x4 x5 q0 q1 q2 q3 q4
              refine (HK.out).mono ?_
              clear HK
              rintro e w74 ⟨r74, rfl, h, A31, k31, rfl, hI31, hk31⟩
              have h74 := h73.trans h
              rw [H_DE.out]
              rw [H_LM.out] at hI31
              have HI31 := hid hI31
              have x74 := h
              rw [H_LM.out]
              clear hI31 hk31
              clear h
              have b1 : (AE == AE) = true := beq_self_eq_true _
              have b2 : (BE == BE) = true := beq_self_eq_true _
              have b3 : (CE == CE) = true := beq_self_eq_true _
              have b4 : (DE == DE) = true := beq_self_eq_true _
              have b5 : (SV == SV) = true := beq_self_eq_true _
              have b6 : (HA == HA) = true := beq_self_eq_true _
              have b7 : (HN == HN) = true := beq_self_eq_true _
              have x7074 := (x71.trans x72).trans (x73.trans x74)
              have K := eq_int A24 A18 k24 q18 LA LA w74 (HI24.out.ext ((x72.trans x73).trans x74)) (HJ18.out w74 x7074) (by have := HLA.out; omega) (by have := HLA.out; omega)
              rw [beq_self_eq_true] at K
              have HK := hid K
              clear K
              obtain ⟨⟨a0, a1, a2, a3, a4⟩, ⟨x0, x1, x2, x3, x4, x5⟩, q0, q1, q2, q3, q4⟩ := FC.out w74 h74
              go_wp2_with fail
              clear a0 a1 a2 a3 a4 x0 x1 x2 x3 x4 x5 q0 q1 q2 q3 q4
              refine HK.out.mono ?_
              clear HK
              rintro e w75 ⟨rfl, x75⟩
              have h75 := h74.trans x75
              have K := eq_int A31 A19 k31 q19 LM LM w75 (HI31.out.ext x75) (HJ19.out w75 (x7074.trans x75)) (by have := HLM.out; omega) (by have := HLM.out; omega)
              rw [beq_self_eq_true] at K
              have HK := hid K
              clear K
              go_wp2_with fail
              refine HK.out.mono ?_
              clear HK
              rintro e w76 ⟨rfl, x76⟩
              have h76 := h75.trans x76
              have K := same_yes _ _ f w76 (HO.out w76 h76) (HV.out w76 h76) HS.out
              have HK := hid K
              clear K
              obtain ⟨⟨a0, a1, a2, a3, a4⟩, ⟨x0, x1, x2, x3, x4, x5⟩, q0, q1, q2, q3, q4⟩ := FC.out w76 h76
              go_wp2_with fail
              clear a0 a1 a2 a3 a4 x0 x1 x2 x3 x4 x5 q0 q1 q2 q3 q4
              refine (HK.out).mono ?_
              clear HK
              rintro e w77 ⟨rfl, h⟩
              have h77 := h76.trans h
              clear h
              go_wp2_with fail
              refine (awake_any w77).mono ?_
              rintro e w78 ⟨rfl, h⟩
              go_wp2
              go_ret
              exact ⟨rfl, HXN.out.trans (h77.trans h)⟩
end Go.Proofs.YtpbpcplboikpcaaGreat
