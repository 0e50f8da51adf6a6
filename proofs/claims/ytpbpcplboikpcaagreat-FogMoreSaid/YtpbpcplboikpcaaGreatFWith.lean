/- The walk of fog.With. Printed by my gen_fwith.py. -/
import Derived.Test.YtpbpcplboikpcaaGreatFWithP
import Derived.Test.YtpbpcplboikpcaaGreatFCopy
import Derived.Test.YtpbpcplboikpcaaGreatFOwn
import Derived.Test.YtpbpcplboikpcaaGreatG4
import Derived.Deep.DeepCutAuto
import Derived.Deep.CutBlock
namespace Go.Proofs.YtpbpcplboikpcaaGreat
open Go Go.RowKit Go.Shelf
set_option linter.unusedVariables false
set_option linter.unusedSimpArgs false

/-- A fog whose rows are a call's own, with whatever room. -/
def WithF (w : World) (B : Nat) (v : Value) (f : Fg) : Prop := ∃ a1 q1 a2 q2 D kd xs, v = fval f a1 q1 a2 q2 D kd ∧ w.ownsRow B 68 2 (.slice a1 f.tr.length q1) f.tr.length (layPr.rows f.tr) ∧ w.ownsRow B 124 3 (.slice a2 f.bl.length q2) f.bl.length (layBl.rows f.bl) ∧ w.ownsRow B 62 2 (.slice D f.ct.length kd) f.ct.length xs ∧ OCt false w B xs f.ct
theorem WithF.fg {w : World} {B : Nat} {v : Value} {f : Fg} (h : WithF w B v f) : FgR w v f := by
  obtain ⟨g1, q1, g2, q2, D, kd, xs, rfl, h1, h2, h3, h4⟩ := h
  exact ⟨_, _, _, _, _, _, rfl, Rd.of_own h1, Rd.of_own h2, ⟨xs, Rd.of_own h3, h4.toC⟩, own_cap h1, own_cap h2, own_cap h3⟩
theorem OC.base {fl : Bool} {w : World} {B B' : Nat} {a b : Value} {x : Ct} (h : OC fl w B a b x) (hB : B' ≤ B) : OC fl w B' a b x := by
  obtain ⟨⟨A, k, e1, h1⟩, A', k', e2, h2, h3⟩ := h
  exact ⟨⟨A, k, e1, own_base h1 hB⟩, A', k', e2, own_base h2 hB, h3⟩
theorem OCt.baseW {fl : Bool} {w : World} {B B' : Nat} (hB : B' ≤ B) : ∀ {xs : List Value} {l : List Ct}, OCt fl w B xs l → OCt fl w B' xs l
  | [], [], _ => trivial
  | a :: b :: xs, x :: l, h => ⟨h.1.base hB, OCt.baseW hB h.2⟩
  | [_], _, h => by cases ‹List Ct› <;> exact h.elim
theorem OCt.len {fl : Bool} {w : World} {B : Nat} : ∀ {xs : List Value} {l : List Ct}, OCt fl w B xs l → xs.length = l.length * 2
  | [], [], _ => rfl
  | a :: b :: xs, x :: l, h => by have := OCt.len h.2; simp only [List.length_cons]; omega
  | [_], _, h => by cases ‹List Ct› <;> exact h.elim
def WithPost (w : World) (f : Fg) (k : Int) (r : Rp) (e : Ending) (w' : World) : Prop := ∃ v, e = .returned (.tuple #[v, .int .i64 (withE f k r)]) ∧ Ext w w' ∧ (withE f k r = 0 → WithF w' w.heap.size v (withF f k r)) ∧ (withE f k r ≠ 0 → v = .agg #[.int .i64 0, .int .i64 0, .slice none 0 0, .slice none 0 0, .slice none 0 0])

set_option maxRecDepth 100000 in
set_option maxHeartbeats 16000000 in
theorem with_any (v : Value) (f : Fg) (k : Int) (r : Rp) (w : World) (hf : FgR w v f) (hs : f.sized) :
    Calls Tryz.prog 30 #[v, .int .i64 k, r.val] w (WithPost w f k r) := by
  obtain ⟨s, rfl, hr⟩ := hf.rows
  obtain ⟨T, hT⟩ : ∃ T, cartE f k = T := ⟨_, rfl⟩
  have HT := hid hT
  clear hT
  have HS := hid hs
  obtain ⟨W0, hW0⟩ : ∃ W0, ((w.alloc (.cells #[.int .i64 f.pl, .int .i64 f.mi, .slice s.a1 f.tr.length s.c1, .slice s.a2 f.bl.length s.c2, .slice s.a3 f.ct.length s.c3] 28)).alloc (.cells #[.int .i64 r.bl, .bool r.hd] 53)).alloc (.cells #[.int .i64 0, .int .i64 0, .slice none 0 0, .slice none 0 0, .slice none 0 0] 28) = W0 := ⟨_, rfl⟩
  have hx0 : Ext w W0 := by rw [← hW0]; exact ((Ext.alloc (Ext.refl w) _).alloc _).alloc _
  have SZ0 : Hid (W0.heap.size = w.heap.size + 3) := by unfold Hid; rw [← hW0]; simp
  have GZ0 : Hid (W0.heap[(w.heap.size + 1 + 1)]? = some (.cells #[.int .i64 0, .int .i64 0, .slice none 0 0, .slice none 0 0, .slice none 0 0] 28 (0, 0))) := by
    unfold Hid; rw [← hW0]
    have := heap_alloc_new ((w.alloc (.cells #[.int .i64 f.pl, .int .i64 f.mi, .slice s.a1 f.tr.length s.c1, .slice s.a2 f.bl.length s.c2, .slice s.a3 f.ct.length s.c3] 28)).alloc (.cells #[.int .i64 r.bl, .bool r.hd] 53)) (.cells #[.int .i64 0, .int .i64 0, .slice none 0 0, .slice none 0 0, .slice none 0 0] 28)
    simpa using this
  have FX : Hid (∀ w', Ext W0 w' → w'.cell? ⟨w.heap.size, 0, none⟩ = some (.int .i64 f.pl) ∧ w'.cell? ⟨w.heap.size, 1, none⟩ = some (.int .i64 f.mi) ∧ w'.cell? ⟨w.heap.size, 2, none⟩ = some (.slice s.a1 f.tr.length s.c1) ∧ w'.cell? ⟨w.heap.size, 3, none⟩ = some (.slice s.a2 f.bl.length s.c2) ∧ w'.cell? ⟨w.heap.size, 4, none⟩ = some (.slice s.a3 f.ct.length s.c3) ∧ w'.cell? ⟨w.heap.size + 1, 0, none⟩ = some (.int .i64 r.bl) ∧ w'.cell? ⟨w.heap.size + 1, 1, none⟩ = some (.bool r.hd)) := fun w' h => ⟨h.cell (by rw [← hW0]; simp [go_sem]), h.cell (by rw [← hW0]; simp [go_sem]), h.cell (by rw [← hW0]; simp [go_sem]), h.cell (by rw [← hW0]; simp [go_sem]), h.cell (by rw [← hW0]; simp [go_sem]), h.cell (by rw [← hW0]; simp [go_sem]), h.cell (by rw [← hW0]; simp [go_sem])⟩
  have HR : Hid (∀ w', Ext W0 w' → FRows w' s f) := fun w' h => hr.ext (hx0.trans h)
  clear hr hf
  show Calls _ _ #[.agg #[.int .i64 f.pl, .int .i64 f.mi, .slice s.a1 f.tr.length s.c1, .slice s.a2 f.bl.length s.c2, .slice s.a3 f.ct.length s.c3], _, .agg #[.int .i64 r.bl, .bool r.hd]] _ _
  go_enter Tryz.func30, Tryz.ntmps30
  go_upto_region 1 with fail
  try rw [hW0]
  clear hW0
  obtain ⟨d0, d1, d2, d3, d4, e0, e1⟩ := FX.out W0 (Ext.refl _)
  go_wp2_with fail
  clear d0 d1 d2 d3 d4 e0 e1
  refine (carted_any (.agg #[.int .i64 f.pl, .int .i64 f.mi, .slice s.a1 f.tr.length s.c1, .slice s.a2 f.bl.length s.c2, .slice s.a3 f.ct.length s.c3]) f k W0 (FRows.fg (HR.out W0 (Ext.refl _))) HS.out).mono ?_
  rintro e w1 ⟨rv, rfl, X1, hr1, hr2⟩
  rw [HT.out]
  by_cases h0 : T = 0
  case neg =>
    have HE0 : Hid (cartE f k ≠ 0) := by unfold Hid; rw [HT.out]; exact h0
    have hr3 := hr2 HE0.out
    subst hr3
    clear hr1 hr2
    have HN : Hid (withE f k r = T) := by unfold Hid withE; rw [if_pos HE0.out, HT.out]
    have HN2 : Hid (withE f k r ≠ 0) := by unfold Hid; rw [HN.out]; exact h0
    have hneT := neqE h0
    have GZ := hid ((Below.block X1 _ (Array.getElem?_eq_some_iff.1 GZ0.out).1).trans GZ0.out)
    have z0 := block_cell (i := 0) GZ.out
    have z1 := block_cell (i := 1) GZ.out
    have z2 := block_cell (i := 2) GZ.out
    have z3 := block_cell (i := 3) GZ.out
    have z4 := block_cell (i := 4) GZ.out
    simp only [List.getElem?_toArray, List.getElem?_cons_zero, List.getElem?_cons_succ] at z0 z1 z2 z3 z4
    have rf := fun i => blk_free (i := i) GZ.out
    go_wp2
    have xf : Ext w (((((w1.setCell ⟨w.heap.size + 1 + 1, 0, none⟩ (.int .i64 0)).setCell ⟨w.heap.size + 1 + 1, 1, none⟩ (.int .i64 0)).setCell ⟨w.heap.size + 1 + 1, 2, none⟩ (.slice none 0 0)).setCell ⟨w.heap.size + 1 + 1, 3, none⟩ (.slice none 0 0)).setCell ⟨w.heap.size + 1 + 1, 4, none⟩ (.slice none 0 0)) := ((((((hx0.trans X1).setCell (by show w.heap.size ≤ w.heap.size + 1 + 1; omega) _).setCell (by show w.heap.size ≤ w.heap.size + 1 + 1; omega) _).setCell (by show w.heap.size ≤ w.heap.size + 1 + 1; omega) _).setCell (by show w.heap.size ≤ w.heap.size + 1 + 1; omega) _).setCell (by show w.heap.size ≤ w.heap.size + 1 + 1; omega) _)
    refine bodyPost_ret (v := .tuple #[.agg #[.int .i64 0, .int .i64 0, .slice none 0 0, .slice none 0 0, .slice none 0 0], .int .i64 T]) ?_ rfl ⟨.agg #[.int .i64 0, .int .i64 0, .slice none 0 0, .slice none 0 0, .slice none 0 0], by rw [HN.out], xf, fun h => absurd h HN2.out, fun _ => rfl⟩
    simp [results, Tryz.results30, go_sem, z0, z1, z2, z3, z4]
  subst h0
  obtain ⟨D0, s2, hrD, -, -⟩ := hr1 HT.out
  subst hrD
  clear hr1 hr2
  have HCE : Hid (cartE f k = 0) := HT
  obtain ⟨hce, hk0, hk1⟩ := cartE_ok HT.out
  have HOK : Hid (FogOK f) := checkF_ok hce
  obtain ⟨kn, rfl⟩ : ∃ kn : Nat, k = kn := ⟨k.toNat, by omega⟩
  have hkl : kn < f.ct.length := by omega
  have hkl' : (kn : Int) < (f.ct.length : Int) := by omega
  obtain ⟨c, hcg⟩ := get_of_lt f.ct kn hkl
  have HCG := hid hcg
  have HCM : Hid (c ∈ f.ct) := mem_of_get hcg
  have HCA : Hid (ctAt f (kn : Int) = c) := by unfold Hid ctAt; rw [Int.toNat_natCast, List.getD_eq_getElem?_getD, hcg]; rfl
  clear hk0 hk1 hce hcg
  obtain ⟨d0, d1, d2, d3, d4, e0, e1⟩ := FX.out w1 X1
  go_wp2_with fail
  refine (blast_any (.agg #[.int .i64 f.pl, .int .i64 f.mi, .slice s.a1 f.tr.length s.c1, .slice s.a2 f.bl.length s.c2, .slice s.a3 f.ct.length s.c3]) f r.bl w1 (FRows.fg (HR.out w1 X1)) (by have := HS.out.bl; omega)).mono ?_
  rintro e w2 ⟨rfl, hb2⟩
  have X2 := X1.trans hb2
  clear d0 d1 d2 d3 d4 e0 e1
  cases hq : blOK f r.bl
  · have HN : Hid (withE f kn r = 1) := by unfold Hid withE; rw [if_neg (fun h => h HCE.out), hq]; rfl
    have HN2 : Hid (withE f kn r ≠ 0) := by unfold Hid; rw [HN.out]; decide
    have GZ := hid ((Below.block X2 _ (Array.getElem?_eq_some_iff.1 GZ0.out).1).trans GZ0.out)
    have z0 := block_cell (i := 0) GZ.out
    have z1 := block_cell (i := 1) GZ.out
    have z2 := block_cell (i := 2) GZ.out
    have z3 := block_cell (i := 3) GZ.out
    have z4 := block_cell (i := 4) GZ.out
    simp only [List.getElem?_toArray, List.getElem?_cons_zero, List.getElem?_cons_succ] at z0 z1 z2 z3 z4
    have rf := fun i => blk_free (i := i) GZ.out
    go_wp2
    have xf : Ext w (((((w2.setCell ⟨w.heap.size + 1 + 1, 0, none⟩ (.int .i64 0)).setCell ⟨w.heap.size + 1 + 1, 1, none⟩ (.int .i64 0)).setCell ⟨w.heap.size + 1 + 1, 2, none⟩ (.slice none 0 0)).setCell ⟨w.heap.size + 1 + 1, 3, none⟩ (.slice none 0 0)).setCell ⟨w.heap.size + 1 + 1, 4, none⟩ (.slice none 0 0)) := ((((((hx0.trans X2).setCell (by show w.heap.size ≤ w.heap.size + 1 + 1; omega) _).setCell (by show w.heap.size ≤ w.heap.size + 1 + 1; omega) _).setCell (by show w.heap.size ≤ w.heap.size + 1 + 1; omega) _).setCell (by show w.heap.size ≤ w.heap.size + 1 + 1; omega) _).setCell (by show w.heap.size ≤ w.heap.size + 1 + 1; omega) _)
    refine bodyPost_ret (v := .tuple #[.agg #[.int .i64 0, .int .i64 0, .slice none 0 0, .slice none 0 0, .slice none 0 0], .int .i64 1]) ?_ rfl ⟨.agg #[.int .i64 0, .int .i64 0, .slice none 0 0, .slice none 0 0, .slice none 0 0], by rw [HN.out], xf, fun h => absurd h HN2.out, fun _ => rfl⟩
    simp [results, Tryz.results30, go_sem, z0, z1, z2, z3, z4]
  have HQ := hid hq
  clear hq
  obtain ⟨cb, co, A1, c1, A2, c2, hA3, cc0, cc1, hCS, hCR, hck1, hck2⟩ := (HR.out w2 X2).ct.at_ HCG.out
  obtain ⟨d0, d1, d2, d3, d4, e0, e1⟩ := FX.out w2 X2
  rw [hA3] at d4
  obtain ⟨AN, hAN⟩ : ∃ AN, (c.rp.any fun x => x.bl == r.bl) = AN := ⟨_, rfl⟩
  have K := containsFunc_rep A2 c2 c.rp _ anyx (fun x => x.bl == r.bl) w2 hCR (by have := HS.out.each c HCM.out; omega) (fun _ _ => trivial) (with1_fn w2 (w.heap.size + 1) r e0)
  rw [hAN] at K
  have HK := hid K
  have HAN := hid hAN
  clear K hAN hA3 hCS hCR hck1 hck2
  go_wp2_with fail
  refine HK.out.mono ?_
  clear HK
  rintro e w3 ⟨rfl, hb3⟩
  have X3 := X2.trans hb3
  clear d0 d1 d2 d3 d4 e0 e1 cc0 cc1
  cases AN
  case true =>
    have HN : Hid (withE f kn r = 5) := by unfold Hid withE; rw [if_neg (fun h => h HCE.out), HQ.out, HCA.out, HAN.out]; rfl
    have HN2 : Hid (withE f kn r ≠ 0) := by unfold Hid; rw [HN.out]; decide
    have GZ := hid ((Below.block X3 _ (Array.getElem?_eq_some_iff.1 GZ0.out).1).trans GZ0.out)
    have z0 := block_cell (i := 0) GZ.out
    have z1 := block_cell (i := 1) GZ.out
    have z2 := block_cell (i := 2) GZ.out
    have z3 := block_cell (i := 3) GZ.out
    have z4 := block_cell (i := 4) GZ.out
    simp only [List.getElem?_toArray, List.getElem?_cons_zero, List.getElem?_cons_succ] at z0 z1 z2 z3 z4
    have rf := fun i => blk_free (i := i) GZ.out
    go_wp2
    have xf : Ext w (((((w3.setCell ⟨w.heap.size + 1 + 1, 0, none⟩ (.int .i64 0)).setCell ⟨w.heap.size + 1 + 1, 1, none⟩ (.int .i64 0)).setCell ⟨w.heap.size + 1 + 1, 2, none⟩ (.slice none 0 0)).setCell ⟨w.heap.size + 1 + 1, 3, none⟩ (.slice none 0 0)).setCell ⟨w.heap.size + 1 + 1, 4, none⟩ (.slice none 0 0)) := ((((((hx0.trans X3).setCell (by show w.heap.size ≤ w.heap.size + 1 + 1; omega) _).setCell (by show w.heap.size ≤ w.heap.size + 1 + 1; omega) _).setCell (by show w.heap.size ≤ w.heap.size + 1 + 1; omega) _).setCell (by show w.heap.size ≤ w.heap.size + 1 + 1; omega) _).setCell (by show w.heap.size ≤ w.heap.size + 1 + 1; omega) _)
    refine bodyPost_ret (v := .tuple #[.agg #[.int .i64 0, .int .i64 0, .slice none 0 0, .slice none 0 0, .slice none 0 0], .int .i64 5]) ?_ rfl ⟨.agg #[.int .i64 0, .int .i64 0, .slice none 0 0, .slice none 0 0, .slice none 0 0], by rw [HN.out], xf, fun h => absurd h HN2.out, fun _ => rfl⟩
    simp [results, Tryz.results30, go_sem, z0, z1, z2, z3, z4]
  have HN : Hid (withE f kn r = 0) := by unfold Hid withE; rw [if_neg (fun h => h HCE.out), HQ.out, HCA.out, HAN.out]; rfl
  go_wp2
  refine wp_region_shut_tail Ext (fun w' => Ext w3 w') (fun
    | 9 => some (fun v w' => ∃ g q, v = .slice g f.tr.length q ∧ w'.ownsRow W0.heap.size 68 2 (.slice g f.tr.length q) f.tr.length (layPr.rows f.tr))
    | 13 => some (fun v w' => ∃ g q, v = .slice g f.bl.length q ∧ w'.ownsRow W0.heap.size 124 3 (.slice g f.bl.length q) f.bl.length (layBl.rows f.bl))
    | 15 => some (fun v w' => ∃ B, v = .pointer (some ⟨B, 0, none⟩) ∧ W0.heap.size ≤ B ∧ w'.heap[B]? = some (.cells #[.int .i64 0, .int .i64 0, .slice none 0 0, .slice none 0 0, .slice none 0 0] 28 (0, 0)))
    | _ => none) 16 (by kernel_rfl) (by kernel_rfl) (fun _ _ h k => h.trans k) ?hT (Ext.drew (Ext.refl w3)) ?_
  case hT =>
    intro i R hR
    match i, hR with
    | 9, hR => cases hR; exact fun _ _ _ ⟨g, q, h1, h2⟩ k => ⟨g, q, h1, own_below h2 k⟩
    | 13, hR => cases hR; exact fun _ _ _ ⟨g, q, h1, h2⟩ k => ⟨g, q, h1, own_below h2 k⟩
    | 15, hR => cases hR; exact fun _ _ _ ⟨B, h1, h2, h3⟩ k => ⟨B, h1, h2, (Below.block k _ (Array.getElem?_eq_some_iff.1 h3).1).trans h3⟩
  refine wM_val ?ua0 rfl rfl Ext.refl (fun w' hD => ?ha0) (fun pha0 => ?na0)
  case ha0 =>
    obtain ⟨d0, d1, d2, d3, d4, e0, e1⟩ := FX.out w' (X3.trans hD.1)
    go_simp; rfl
  simp only [Act.put, List.setIfInBounds_toArray, List.set_cons_succ, List.set_cons_zero, Nat.reduceAdd]
  refine wM_val ?ua1 rfl rfl Ext.refl (fun w' hD => ?ha1) (fun pha1 => ?na1)
  case ha1 =>
    obtain ⟨d0, d1, d2, d3, d4, e0, e1⟩ := FX.out w' (X3.trans hD.1)
    go_simp; rfl
  simp only [Act.put, List.setIfInBounds_toArray, List.set_cons_succ, List.set_cons_zero, Nat.reduceAdd]
  refine wM_val ?ua2 rfl rfl Ext.refl (fun w' hD => ?ha2) (fun pha2 => ?na2)
  case ha2 =>
    obtain ⟨d0, d1, d2, d3, d4, e0, e1⟩ := FX.out w' (X3.trans hD.1)
    go_simp; rfl
  simp only [Act.put, List.setIfInBounds_toArray, List.set_cons_succ, List.set_cons_zero, Nat.reduceAdd]
  refine wM_val ?ua3 rfl rfl Ext.refl (fun w' hD => ?ha3) (fun pha3 => ?na3)
  case ha3 =>
    obtain ⟨d0, d1, d2, d3, d4, e0, e1⟩ := FX.out w' (X3.trans hD.1)
    go_simp; rfl
  simp only [Act.put, List.setIfInBounds_toArray, List.set_cons_succ, List.set_cons_zero, Nat.reduceAdd]
  refine wM_val ?ua4 rfl rfl Ext.refl (fun w' hD => ?ha4) (fun pha4 => ?na4)
  case ha4 =>
    obtain ⟨d0, d1, d2, d3, d4, e0, e1⟩ := FX.out w' (X3.trans hD.1)
    go_simp; rfl
  simp only [Act.put, List.setIfInBounds_toArray, List.set_cons_succ, List.set_cons_zero, Nat.reduceAdd]
  refine wM_val ?ua5 rfl rfl Ext.refl (fun w' hD => ?ha5) (fun pha5 => ?na5)
  case ha5 =>
    obtain ⟨d0, d1, d2, d3, d4, e0, e1⟩ := FX.out w' (X3.trans hD.1)
    go_simp; rfl
  simp only [Act.put, List.setIfInBounds_toArray, List.set_cons_succ, List.set_cons_zero, Nat.reduceAdd]
  refine wM_val ?ua6 rfl rfl Ext.refl (fun w' hD => ?ha6) (fun pha6 => ?na6)
  case ha6 =>
    obtain ⟨d0, d1, d2, d3, d4, e0, e1⟩ := FX.out w' (X3.trans hD.1)
    go_simp; rfl
  simp only [Act.put, List.setIfInBounds_toArray, List.set_cons_succ, List.set_cons_zero, Nat.reduceAdd]
  refine wM_val ?ua7 rfl rfl Ext.refl (fun w' hD => ?ha7) (fun pha7 => ?na7)
  case ha7 =>
    obtain ⟨d0, d1, d2, d3, d4, e0, e1⟩ := FX.out w' (X3.trans hD.1)
    go_simp; rfl
  simp only [Act.put, List.setIfInBounds_toArray, List.set_cons_succ, List.set_cons_zero, Nat.reduceAdd]
  refine wM_val ?ua8 rfl rfl Ext.refl (fun w' hD => ?ha8) (fun pha8 => ?na8)
  case ha8 =>
    obtain ⟨d0, d1, d2, d3, d4, e0, e1⟩ := FX.out w' (X3.trans hD.1)
    go_simp; rfl
  simp only [Act.put, List.setIfInBounds_toArray, List.set_cons_succ, List.set_cons_zero, Nat.reduceAdd]
  refine wM_op _ rfl rfl (opens_call ?fa9 ?ga9 (fun w' hD => ?ha9) (fun w' hD => ?ca9)) (fun v9 hv9 => ?na9)
  case ha9 => go_simp; constructor <;> rfl
  case ca9 =>
    refine (clone_pair s.a1 s.c1 f.tr w' (HR.out w' (X3.trans hD.1)).tr (by have := HS.out.tr; omega)).mono ?_
    rintro e w2 ⟨g, q, rfl, ho, -, hb⟩
    exact ⟨_, rfl, hb, g, q, rfl, own_base ho (by have := (X3.trans hD.1).size; omega)⟩
  obtain ⟨_, -, -, g1, q1, rfl, -⟩ := hv9
  simp only [Act.put, List.setIfInBounds_toArray, List.set_cons_succ, List.set_cons_zero, Nat.reduceAdd]
  refine wM_val ?ua10 rfl rfl Ext.refl (fun w' hD => ?ha10) (fun pha10 => ?na10)
  case ha10 =>
    obtain ⟨d0, d1, d2, d3, d4, e0, e1⟩ := FX.out w' (X3.trans hD.1)
    go_simp; rfl
  simp only [Act.put, List.setIfInBounds_toArray, List.set_cons_succ, List.set_cons_zero, Nat.reduceAdd]
  refine wM_val ?ua11 rfl rfl Ext.refl (fun w' hD => ?ha11) (fun pha11 => ?na11)
  case ha11 =>
    obtain ⟨d0, d1, d2, d3, d4, e0, e1⟩ := FX.out w' (X3.trans hD.1)
    go_simp; rfl
  simp only [Act.put, List.setIfInBounds_toArray, List.set_cons_succ, List.set_cons_zero, Nat.reduceAdd]
  refine wM_val ?ua12 rfl rfl Ext.refl (fun w' hD => ?ha12) (fun pha12 => ?na12)
  case ha12 =>
    obtain ⟨d0, d1, d2, d3, d4, e0, e1⟩ := FX.out w' (X3.trans hD.1)
    go_simp; rfl
  simp only [Act.put, List.setIfInBounds_toArray, List.set_cons_succ, List.set_cons_zero, Nat.reduceAdd]
  refine wM_op _ rfl rfl (opens_call ?fa13 ?ga13 (fun w' hD => ?ha13) (fun w' hD => ?ca13)) (fun v13 hv13 => ?na13)
  case ha13 => go_simp; constructor <;> rfl
  case ca13 =>
    refine (clone_blast s.a2 s.c2 f.bl w' (HR.out w' (X3.trans hD.1)).bl (by have := HS.out.bl; omega)).mono ?_
    rintro e w2 ⟨g, q, rfl, ho, -, hb⟩
    exact ⟨_, rfl, hb, g, q, rfl, own_base ho (by have := (X3.trans hD.1).size; omega)⟩
  obtain ⟨_, -, -, g2, q2, rfl, -⟩ := hv13
  simp only [Act.put, List.setIfInBounds_toArray, List.set_cons_succ, List.set_cons_zero, Nat.reduceAdd]
  refine wM_val ?ua14 rfl rfl Ext.refl (fun w' hD => ?ha14) (fun pha14 => ?na14)
  case ha14 =>
    obtain ⟨d0, d1, d2, d3, d4, e0, e1⟩ := FX.out w' (X3.trans hD.1)
    go_simp; rfl
  simp only [Act.put, List.setIfInBounds_toArray, List.set_cons_succ, List.set_cons_zero, Nat.reduceAdd]
  refine wM_op _ rfl rfl (opens_val (fun w' hD => ?ha15)) (fun v15 hv15 => ?na15)
  case ha15 =>
    refine ⟨.pointer (some ⟨w'.heap.size, 0, none⟩), w'.alloc (.cells #[.int .i64 0, .int .i64 0, .slice none 0 0, .slice none 0 0, .slice none 0 0] 28), ?_, Ext.alloc (Ext.refl _) _, ⟨w'.heap.size, rfl, by have := (X3.trans hD.1).size; omega, heap_alloc_new w' _⟩⟩
    go_simp
  obtain ⟨_, _, _, B3, rfl, _, _⟩ := hv15
  simp only [Act.put, List.setIfInBounds_toArray, List.set_cons_succ, List.set_cons_zero, Nat.reduceAdd]
  refine wM_nil ?_
  intro w9 hw9 hF9
  obtain ⟨-, h1, q1', e1, o1⟩ := hF9 9
  cases e1
  obtain ⟨-, h2, q2', e2, o2⟩ := hF9 13
  cases e2
  obtain ⟨-, B', e3, hB3, g3⟩ := hF9 15
  cases e3
  clear hF9
  simp only [List.drop_succ_cons, List.drop_zero]
  have G3 := hid g3
  have X9 := X3.trans hw9
  have O1 := hid o1
  have O2 := hid o2
  clear o1 o2 g3 hw9 X1 X2 X3 hb2 hb3
  have r0 := block_cell (i := 0) G3.out
  have r1 := block_cell (i := 1) G3.out
  have r2 := block_cell (i := 2) G3.out
  have r3 := block_cell (i := 3) G3.out
  have r4 := block_cell (i := 4) G3.out
  simp only [List.getElem?_toArray, List.getElem?_cons_zero, List.getElem?_cons_succ] at r0 r1 r2 r3 r4
  have rf := fun i => blk_free (i := i) G3.out
  go_upto_region 9 with fail
  have xs10 : BelS (fun k => k = B3) w9 (((((w9.setCell ⟨B3, 0, none⟩ (.int .i64 f.pl)).setCell ⟨B3, 1, none⟩ (.int .i64 f.mi)).setCell ⟨B3, 2, none⟩ (.slice g1 f.tr.length q1)).setCell ⟨B3, 3, none⟩ (.slice g2 f.bl.length q2)).setCell ⟨B3, 4, none⟩ (.slice none 0 0)) := ((((((BelS.refl _ w9).setCell (S := fun k => k = B3) ⟨B3, 0, none⟩ _ rfl).setCell (S := fun k => k = B3) ⟨B3, 1, none⟩ _ rfl).setCell (S := fun k => k = B3) ⟨B3, 2, none⟩ _ rfl).setCell (S := fun k => k = B3) ⟨B3, 3, none⟩ _ rfl).setCell (S := fun k => k = B3) ⟨B3, 4, none⟩ _ rfl)
  have G10 : Hid ((((((w9.setCell ⟨B3, 0, none⟩ (.int .i64 f.pl)).setCell ⟨B3, 1, none⟩ (.int .i64 f.mi)).setCell ⟨B3, 2, none⟩ (.slice g1 f.tr.length q1)).setCell ⟨B3, 3, none⟩ (.slice g2 f.bl.length q2)).setCell ⟨B3, 4, none⟩ (.slice none 0 0)).heap[B3]? = some (.cells #[.int .i64 f.pl, .int .i64 f.mi, .slice g1 f.tr.length q1, .slice g2 f.bl.length q2, .slice none 0 0] 28 (0, 0))) := by
    have := blk_set (blk_set (blk_set (blk_set (blk_set G3.out (i := 0) (.int .i64 f.pl)) (i := 1) (.int .i64 f.mi)) (i := 2) (.slice g1 f.tr.length q1)) (i := 3) (.slice g2 f.bl.length q2)) (i := 4) (.slice none 0 0)
    unfold Hid; simpa using this
  have X10 : Ext W0 (((((w9.setCell ⟨B3, 0, none⟩ (.int .i64 f.pl)).setCell ⟨B3, 1, none⟩ (.int .i64 f.mi)).setCell ⟨B3, 2, none⟩ (.slice g1 f.tr.length q1)).setCell ⟨B3, 3, none⟩ (.slice g2 f.bl.length q2)).setCell ⟨B3, 4, none⟩ (.slice none 0 0)) := (((((X9.setCell (by show W0.heap.size ≤ B3; omega) _).setCell (by show W0.heap.size ≤ B3; omega) _).setCell (by show W0.heap.size ≤ B3; omega) _).setCell (by show W0.heap.size ≤ B3; omega) _).setCell (by show W0.heap.size ≤ B3; omega) _)
  generalize hW10 : (((((w9.setCell ⟨B3, 0, none⟩ (.int .i64 f.pl)).setCell ⟨B3, 1, none⟩ (.int .i64 f.mi)).setCell ⟨B3, 2, none⟩ (.slice g1 f.tr.length q1)).setCell ⟨B3, 3, none⟩ (.slice g2 f.bl.length q2)).setCell ⟨B3, 4, none⟩ (.slice none 0 0)) = W10 at xs10 G10 X10 ⊢
  clear hW10
  have O10 := hid (xs10.own O1.out (fun g hg e => by subst e; exact own_ne O1.out G3.out (by decide) hg))
  have O20 := hid (xs10.own O2.out (fun g hg e => by subst e; exact own_ne O2.out G3.out (by decide) hg))
  obtain ⟨d0, d1, d2, d3, d4, e0, e1⟩ := FX.out W10 X10
  clear G3 O1 O2 r0 r1 r2 r3 r4 rf xs10 X9
  obtain ⟨ct', hct'⟩ : ∃ ct', (withF f (kn : Int) r).ct = ct' := ⟨_, rfl⟩
  have HCT := hid hct'
  have HCTL : Hid (ct'.length = f.ct.length) := by unfold Hid; rw [← hct']; simp [withF]
  clear hct'
  go_wp2_with fail
  clear d0 d1 d2 d3 d4 e0 e1
  go_loopw [60] (fun i wr => ∃ (k : Nat) (D : Option Addr) (kd : Nat) (xs : List Value), k ≤ f.ct.length ∧ i = .int .i64 (k : Int) ∧ Hid (wr.heap[B3]? = some (.cells #[.int .i64 f.pl, .int .i64 f.mi, .slice g1 f.tr.length q1, .slice g2 f.bl.length q2, .slice D k kd] 28 (0, 0))) ∧
      Hid (wr.ownsRow W0.heap.size 68 2 (.slice g1 f.tr.length q1) f.tr.length (layPr.rows f.tr)) ∧ Hid (wr.ownsRow W0.heap.size 124 3 (.slice g2 f.bl.length q2) f.bl.length (layBl.rows f.bl)) ∧
      Hid (wr.ownsRow W0.heap.size 62 2 (.slice D k kd) k xs) ∧ Hid (OCt false wr W0.heap.size xs (ct'.take k)) ∧ Ext W0 wr) (fun i _ => f.ct.length - (intOf i).toNat)
  case atStart => exact ⟨0, none, 0, [], Nat.zero_le _, rfl, G10, O10, O20, own_nil _ _ _ _, trivial, X10⟩
  case round =>
    obtain ⟨k, D, kd, xs, hk, rfl, G1, O1, O2, OD, OX, hx⟩ := hrel
    by_cases hlt : k < f.ct.length
    · have hlt' : (k : Int) < (f.ct.length : Int) := by omega
      obtain ⟨x, hxk⟩ := get_of_lt f.ct k hlt
      obtain ⟨b, off, A5, k5, A6, k6, e1, g0, g1', hI, hR, -, -⟩ := (HR.out wr hx).ct.at_ hxk
      rw [e1]
      have hzx := HS.out.each x (mem_of_get hxk)
      obtain ⟨y, hy⟩ : ∃ y : Ct, y = if k = kn then { x with rp := x.rp ++ [r] } else x := ⟨_, rfl⟩
      have hyk : ct'[k]? = some y := by
        rw [← HCT.out]
        unfold withF
        rw [HCA.out, Int.toNat_natCast]
        show (f.ct.set kn _)[k]? = _
        by_cases e : k = kn
        · subst e
          rw [List.getElem?_set_self hlt, hy, if_pos rfl]
          have : x = c := by have h1 := HCG.out; rw [hxk] at h1; exact Option.some.inj h1
          rw [this]
        · rw [List.getElem?_set_ne (fun h => e h.symm), hxk, hy, if_neg e]
      have HTK : Hid (ct'.take k ++ [y] = ct'.take (k + 1)) := (take_next hyk).symm
      have HYS : Hid (y.st = x.st) := by unfold Hid; rw [hy]; split <;> rfl
      clear hxk hyk
      have p4 := block_cell (i := 4) G1.out
      simp only [List.getElem?_toArray, List.getElem?_cons_zero, List.getElem?_cons_succ] at p4
      obtain ⟨Wx, hWx⟩ : ∃ Wx, wr.alloc (.cells #[.slice A5 x.st.length k5, .slice A6 x.rp.length k6] 62) = Wx := ⟨_, rfl⟩
      have hxx : Ext wr Wx := by rw [← hWx]; exact Ext.alloc (Ext.refl _) _
      have FY : Hid (∀ w', Ext Wx w' → w'.cell? ⟨B3, 4, none⟩ = some (.slice D k kd) ∧ w'.cell? ⟨wr.heap.size, 0, none⟩ = some (.slice A5 x.st.length k5) ∧ w'.cell? ⟨wr.heap.size, 1, none⟩ = some (.slice A6 x.rp.length k6)) := fun w' h => ⟨h.cell (hxx.cell p4), h.cell (by rw [← hWx]; simp [go_sem]), h.cell (by rw [← hWx]; simp [go_sem])⟩
      have HI := hid (show Ints Wx A5 x.st from hI.ext hxx)
      have HRR := hid (show Reps Wx A6 x.rp from Rows.ext hR hxx)
      have XX := hx.trans hxx
      have szx : W0.heap.size ≤ Wx.heap.size := XX.size
      obtain ⟨_, ⟨ti, tz, hti, htz, htsize, htby, htzs⟩, _, _⟩ := elem_rep
      have hm1 : Hid (x.rp.length + 1 ≤ maxLen) := by unfold Hid; simp only [maxLen]; omega
      have hb2' : Hid (ti.bytes * (x.rp.length + 1) ≤ 281474976710656) := by unfold Hid; rw [htby]; omega
      have H4 := hid hti
      have H5 := hid htz
      have H6 := hid htsize
      have hwr1 : IntKind.i64.wrap ((x.rp.length : Int) + 1) = (x.rp.length : Int) + 1 := IntWalk.i64_in _ ⟨by omega, by omega⟩
      have HWR := hid hwr1
      clear p4 hI hR hti htz htsize htby htzs hwr1
      obtain ⟨y0, y1, y2⟩ := FY.out Wx (Ext.refl _)
      go_upto_region 12 with fail
      try rw [hWx]
      clear hWx g0 g1'
      go_wp2_with (at_make; refine wpList_make_room _ rfl _ _ 60 rfl W0.heap.size 53 ti tz 2 Tryz.underlying60 H4.out H5.out H6.out .i64 .i64 (x.rp.length : Int) ((x.rp.length : Int) + 1) x.rp.length (x.rp.length + 1) rfl rfl rfl (by omega) (by omega) hb2'.out hm1.out szx ?_)
      clear y0 y1 y2
      intro w20 zs20 own20 gr20
      have V0 : Ext Wx w20 := Ext.grown (Ext.refl _) gr20 (fun j e => by cases e)
      obtain ⟨gL, hgL⟩ : ∃ gL, Wx.heap.size = gL := ⟨_, rfl⟩
      rw [hgL] at own20 ⊢
      have OL := hid own20
      clear own20 gr20
      obtain ⟨y0, y1, y2⟩ := FY.out w20 V0
      go_wp2_with (refine wpList_copy_into _ rfl _ _ 60 60 rfl 53 53 2 Tryz.underlying60 (by kernel_rfl) rfl OL.out A6 x.rp.length k6 (layRp.rows x.rp) rfl (Nat.le_refl _) (layRp.rows_len _) (Rd.ext HRR.out V0) (layRp.rows_one _) (by decide) ?_)
      clear y0 y1 y2
      intro w21 own21 bel21
      have V1 : Ext Wx w21 := (BelS.trans (Ext.belS V0) bel21).ext (fun j hj e => by omega)
      have OL1 : Hid (w21.ownsRow W0.heap.size 53 2 (.slice (some ⟨gL, 0, none⟩) x.rp.length (x.rp.length + 1)) x.rp.length (layRp.rows x.rp)) := by
        unfold Hid
        have h1 := own_len OL.out
        rw [List.drop_eq_nil_of_le (by omega), List.append_nil] at own21
        exact own21
      clear own21 bel21 OL V0 HRR
      go_upto_if 79 with fail
      go_cut [13] (fun s13 wx => (∃ AL qL, s13 = .slice AL y.rp.length qL ∧ wx.ownsRow W0.heap.size 53 2 (.slice AL y.rp.length qL) y.rp.length (layRp.rows y.rp)) ∧ Ext Wx wx)
      case first =>
        by_cases hkk : k = kn
        · have hkk' : ((k : Int) == (kn : Int)) = true := by simp [hkk]
          have HY : Hid (y.rp = x.rp ++ [r]) := by unfold Hid; rw [hy, if_pos hkk]
          have HYL : Hid (y.rp.length = x.rp.length + 1) := by unfold Hid; rw [HY.out]; simp
          clear hkk hy
          obtain ⟨d0, d1, d2, d3, d4, e0, e1⟩ := FX.out w21 (XX.trans V1)
          go_wp2_with (at_builtin; refine wpList_append_fit _ rfl _ _ 60 rfl elem_rep W0.heap.size gL x.rp.length (x.rp.length + 1) (layRp.rows x.rp) rfl (own_below OL1.out (Ext.alloc (Ext.refl _) _)) (some ⟨w21.heap.size, 0, none⟩) 1 1 (layRp.cells r) rfl rfl (rd_new w21 (layRp.cells r) _ _ rfl) (layRp.one r) (by omega) ?_)
          intro w22 own22 gr22
          have V2 : Ext Wx w22 := Ext.grown (V1.trans (Ext.alloc (Ext.refl _) _)) gr22 (fun j e => by cases e; omega)
          have OL2 : Hid (w22.ownsRow W0.heap.size 53 2 (.slice (some ⟨gL, 0, none⟩) y.rp.length (x.rp.length + 1)) y.rp.length (layRp.rows y.rp)) := by
            unfold Hid
            rw [HYL.out, HY.out, layRp.rows_app, layRp.rows_single]
            exact own22
          clear own22 gr22 d0 d1 d2 d3 d4 e0 e1
          go_wp2_with fail
          go_meet
          exact ⟨⟨_, _, by rw [HYL.out], OL2.out⟩, V2⟩
        · have hkk' : ((k : Int) == (kn : Int)) = false := by simp; omega
          have HY : Hid (y.rp = x.rp) := by unfold Hid; rw [hy, if_neg hkk]
          clear hkk hy
          go_wp2_with fail
          go_meet
          exact ⟨⟨_, _, by rw [HY.out], by rw [HY.out]; exact OL1.out⟩, V1⟩
      case rest =>
        obtain ⟨⟨AL, qL, rfl, hoL⟩, V2⟩ := hcut
        obtain ⟨w23, hw23⟩ : ∃ w23, w23 = wc := ⟨_, rfl⟩
        subst hw23
        obtain ⟨YL, hYL⟩ : ∃ YL, y.rp.length = YL := ⟨_, rfl⟩
        have HYL := hid hYL
        rw [hYL] at hoL
        have HL := hid hoL
        rw [hYL]
        clear hoL hYL OL1 V1
        go_wp2_with fail
        refine wp_region_shut_tail Ext (fun w' => Ext w23 w') (fun
          | 4 => some (fun v w' => ∃ A q, v = .slice A x.st.length q ∧ w'.ownsRow W0.heap.size 3 1 (.slice A x.st.length q) x.st.length (x.st.map (.int .i64)))
          | 6 => some (fun v w' => ∃ a b, v = .agg #[a, b] ∧ OC false w' W0.heap.size a b y)
          | 7 => some (fun v w' => ∃ B a b, v = .slice (some ⟨B, 0, none⟩) 1 1 ∧ Rd w' (some ⟨B, 0, none⟩) [a, b] ∧ OC false w' W0.heap.size a b y)
          | _ => none) 8 (by kernel_rfl) (by kernel_rfl) (fun _ _ h k => h.trans k) ?hTb (Ext.drew (Ext.refl w23)) ?_
        case hTb =>
          intro i R hR
          match i, hR with
          | 4, hR => cases hR; exact fun _ _ _ ⟨g, q, h1, h2⟩ k => ⟨g, q, h1, own_below h2 k⟩
          | 6, hR => cases hR; exact fun _ _ _ ⟨a, b, h1, h2⟩ k => ⟨a, b, h1, h2.ext k⟩
          | 7, hR => cases hR; exact fun _ _ _ ⟨B, a, b, h1, h2, h3⟩ k => ⟨B, a, b, h1, h2.ext k, h3.ext k⟩
        refine wM_val ?ub0 rfl rfl Ext.refl (fun w' hD => ?hb0) (fun phb0 => ?nb0)
        case hb0 =>
          obtain ⟨d0, d1, d2⟩ := FY.out w' (V2.trans hD.1)
          go_simp; rfl
        simp only [Act.put, List.setIfInBounds_toArray, List.set_cons_succ, List.set_cons_zero, Nat.reduceAdd]
        refine wM_val ?ub1 rfl rfl Ext.refl (fun w' hD => ?hb1) (fun phb1 => ?nb1)
        case hb1 =>
          obtain ⟨d0, d1, d2⟩ := FY.out w' (V2.trans hD.1)
          go_simp; rfl
        simp only [Act.put, List.setIfInBounds_toArray, List.set_cons_succ, List.set_cons_zero, Nat.reduceAdd]
        refine wM_val ?ub2 rfl rfl Ext.refl (fun w' hD => ?hb2) (fun phb2 => ?nb2)
        case hb2 =>
          obtain ⟨d0, d1, d2⟩ := FY.out w' (V2.trans hD.1)
          go_simp; rfl
        simp only [Act.put, List.setIfInBounds_toArray, List.set_cons_succ, List.set_cons_zero, Nat.reduceAdd]
        refine wM_val ?ub3 rfl rfl Ext.refl (fun w' hD => ?hb3) (fun phb3 => ?nb3)
        case hb3 =>
          obtain ⟨d0, d1, d2⟩ := FY.out w' (V2.trans hD.1)
          go_simp; rfl
        simp only [Act.put, List.setIfInBounds_toArray, List.set_cons_succ, List.set_cons_zero, Nat.reduceAdd]
        refine wM_op _ rfl rfl (opens_call ?fb4 ?gb4 (fun w' hD => ?hb4) (fun w' hD => ?cb4)) (fun v4 hv4 => ?nb4)
        case hb4 => go_simp; constructor <;> rfl
        case cb4 =>
          refine (clone_int A5 k5 x.st w' (HI.out.ext (V2.trans hD.1)) (by omega)).mono ?_
          rintro e w2 ⟨g, q, rfl, ho, -, hb⟩
          exact ⟨_, rfl, hb, g, q, rfl, own_base ho (by have := (V2.trans hD.1).size; omega)⟩
        obtain ⟨_, -, -, A8, q8, rfl, -⟩ := hv4
        simp only [Act.put, List.setIfInBounds_toArray, List.set_cons_succ, List.set_cons_zero, Nat.reduceAdd]
        refine wM_val ?ub5 rfl rfl Ext.refl (fun w' hD => ?hb5) (fun phb5 => ?nb5)
        case hb5 =>
          obtain ⟨d0, d1, d2⟩ := FY.out w' (V2.trans hD.1)
          go_simp; rfl
        simp only [Act.put, List.setIfInBounds_toArray, List.set_cons_succ, List.set_cons_zero, Nat.reduceAdd]
        refine wM_op _ rfl rfl (opens_val (fun w' hD => ?hb6)) (fun v6 hv6 => ?nb6)
        case hb6 =>
          obtain ⟨_, A, q, e1, h1⟩ := hD.get 4 (by first | kernel_rfl | simp [Region.binds])
          refine ⟨.agg #[.slice A8 x.st.length q8, .slice AL YL qL], w', ?_, Ext.refl _, ⟨_, _, rfl, ⟨A, q, by rw [HYS.out]; exact e1, by rw [HYS.out]; exact h1⟩, AL, qL, by rw [HYL.out], by rw [HYL.out]; exact own_below HL.out hD.1, fun h => by cases h⟩⟩
          go_simp
        obtain ⟨_, _, _, a8, b8, e8, ⟨Ax, qx, ea, -⟩, Ay, qy, eb, -⟩ := hv6
        subst ea
        subst eb
        subst e8
        simp only [Act.put, List.setIfInBounds_toArray, List.set_cons_succ, List.set_cons_zero, Nat.reduceAdd]
        refine wM_op _ rfl rfl (opens_val (fun w' hD => ?hb7)) (fun v7 hv7 => ?nb7)
        case hb7 =>
          obtain ⟨_, a, b, e1, h1⟩ := hD.get 6 (by first | kernel_rfl | simp [Region.binds])
          cases e1
          refine ⟨.slice (some ⟨w'.heap.size, 0, none⟩) 1 1, w'.alloc (.cells #[.slice Ax y.st.length qx, .slice Ay y.rp.length qy] 62), ?_, Ext.alloc (Ext.refl _) _, ⟨w'.heap.size, _, _, rfl, rd_new w' [.slice Ax y.st.length qx, .slice Ay y.rp.length qy] _ _ rfl, h1.ext (Ext.alloc (Ext.refl _) _)⟩⟩
          go_simp
        obtain ⟨_, _, _, B9, a9, b9, rfl, -⟩ := hv7
        simp only [Act.put, List.setIfInBounds_toArray, List.set_cons_succ, List.set_cons_zero, Nat.reduceAdd]
        refine wM_nil ?_
        intro w9 hw9 hF9
        obtain ⟨-, B', va, vb, e9, hrd, hoc⟩ := hF9 7
        cases e9
        clear hF9 FY
        have hx9 := (hxx.trans V2).trans hw9
        have HRD := hid hrd
        have HOC := hid hoc
        have G19 := hid ((Below.block hx9 _ (Array.getElem?_eq_some_iff.1 G1.out).1).trans G1.out)
        have O19 := hid (own_below O1.out hx9)
        have O29 := hid (own_below O2.out hx9)
        have OD9 := hid (own_below OD.out hx9)
        have OX9 := hid (OX.out.ext hx9)
        have hxw9 := hid (hx.trans hx9)
        have sz9 : W0.heap.size ≤ w9.heap.size := hxw9.out.size
        have hnb : (k + 1) * 48 ≤ 140737488355328 := by have := HS.out.ct; omega
        have HON : Hid (∀ u ∈ [va, vb], u.oneCell' = true) := by
          obtain ⟨⟨_, _, ea, _⟩, _, _, eb, _⟩ := HOC.out
          intro u hu
          simp at hu
          rcases hu with rfl | rfl
          · rw [ea]; rfl
          · rw [eb]; rfl
        clear hrd hoc OD O1 O2 OX G1 hxx hw9 HI szx V2 XX HL
        simp only [List.drop_succ_cons, List.drop_zero]
        refine wpList_append_rd2 _ rfl _ _ 26 rfl elem_cart W0.heap.size _ k xs rfl OD9.out (some ⟨B9, 0, none⟩) 1 1 [va, vb] rfl rfl HRD.out HON.out hnb sz9 ?_
        intro D6 k6 W6 own6 hbel6 hgr6 hloc6
        have hS6 : BelS (fun g => (Value.slice D k kd).ownBlock = some g) w9 W6 := (BelS.refl _ w9).grown hgr6 (fun g e => e)
        have hD6 : ∀ g, (Value.slice D k kd).ownBlock = some g → ∃ cs T, w9.heap[g]? = some (.cells cs T (0, 0)) ∧ T = 62 := fun g hg => by
          obtain ⟨cur, hc⟩ := own_blk OD9.out hg
          exact ⟨cur, _, hc, rfl⟩
        have hD7 : ∀ g, (Value.slice D k kd).ownBlock = some g → ∃ cs T, w9.heap[g]? = some (.cells cs T (0, 0)) ∧ T ≠ 3 ∧ T ≠ 53 := fun g hg => by
          obtain ⟨cs, T, hc, rfl⟩ := hD6 g hg
          exact ⟨cs, _, hc, by decide, by decide⟩
        have G16 := hid (hS6.heap G19.out (fun e => own_ne OD9.out G19.out (by decide) e))
        have O16 := hid (hS6.own O19.out (fun g hg hs => by obtain ⟨cs, T, hh, rfl⟩ := hD6 g hs; exact own_ne O19.out hh (by decide) hg))
        have O26 := hid (hS6.own O29.out (fun g hg hs => by obtain ⟨cs, T, hh, rfl⟩ := hD6 g hs; exact own_ne O29.out hh (by decide) hg))
        have OX6 := hid (OCt.keep hS6 hD7 OX9.out)
        have OC6 := hid (OC.keep HOC.out hS6 hD7)
        have hxw6 : Ext W0 W6 := Ext.grown hxw9.out hgr6 (fun j e => (OD9.out.lt j e).1)
        have OD6 := hid own6
        have hcr : W6.cell? ⟨B3, 4, none⟩ = some (.slice D k kd) := by rw [block_cell G16.out]; rfl
        have hfr := blk_free (i := 4) G16.out
        clear own6 hloc6 hgr6 hbel6 hS6 hD6 hD7 G19 O19 O29 OX9 HOC OD9 hxw9 sz9 HRD HON
        go_wp2
        have st : BelS (fun g => g = B3) W6 (W6.setCell ⟨B3, 4, none⟩ (.slice D6 (k + 1) k6)) := (BelS.refl _ W6).setCell _ _ rfl
        have G17 : Hid ((W6.setCell ⟨B3, 4, none⟩ (.slice D6 (k + 1) k6)).heap[B3]? = some (.cells #[.int .i64 f.pl, .int .i64 f.mi, .slice g1 f.tr.length q1, .slice g2 f.bl.length q2, .slice D6 (k + 1) k6] 28 (0, 0))) := by
          have := blk_set G16.out (i := 4) (.slice D6 (k + 1) k6)
          unfold Hid; simpa using this
        have O17 := hid (st.own O16.out (fun g hg e => by subst e; exact own_ne O16.out G16.out (by decide) hg))
        have O27 := hid (st.own O26.out (fun g hg e => by subst e; exact own_ne O26.out G16.out (by decide) hg))
        have OD7 := hid (st.own OD6.out (fun g hg e => by subst e; exact own_ne OD6.out G16.out (by decide) hg))
        have hSS : ∀ g, g = B3 → ∃ cs T, W6.heap[g]? = some (.cells cs T (0, 0)) ∧ T ≠ 3 ∧ T ≠ 53 := fun g hg => by subst hg; exact ⟨_, _, G16.out, by decide, by decide⟩
        have OX7 : Hid (OCt false (W6.setCell ⟨B3, 4, none⟩ (.slice D6 (k + 1) k6)) W0.heap.size (xs ++ [va, vb]) (ct'.take (k + 1))) := by
          unfold Hid
          rw [← HTK.out]
          exact OCt.snoc (OC6.out.keep st hSS) (OCt.keep st hSS OX6.out)
        have hx7 : Ext W0 (W6.setCell ⟨B3, 4, none⟩ (.slice D6 (k + 1) k6)) := hxw6.setCell (by show W0.heap.size ≤ B3; omega) _
        clear st hSS G16 O16 O26 OX6 OC6 OD6 hcr hfr
        go_roundw
        case rel => exact ⟨k + 1, D6, k6, xs ++ [va, vb], by omega, by go_num, G17, O17, O27, OD7, OX7, hx7⟩
        case measure => simp [intOf]; omega
    · have hlt' : ¬ (k : Int) < (f.ct.length : Int) := by omega
      have hkl2 : k = f.ct.length := by omega
      subst hkl2
      have HOX : Hid (OCt false wr W0.heap.size xs ct') := by
        have h := OX.out
        rw [List.take_of_length_le (by rw [HCTL.out]; exact Nat.le_refl _)] at h
        exact h
      clear OX
      have GZ := hid ((Below.block hx _ (Array.getElem?_eq_some_iff.1 GZ0.out).1).trans GZ0.out)
      have p0 := block_cell (i := 0) G1.out
      have p1 := block_cell (i := 1) G1.out
      have p2 := block_cell (i := 2) G1.out
      have p3 := block_cell (i := 3) G1.out
      have p4 := block_cell (i := 4) G1.out
      simp only [List.getElem?_toArray, List.getElem?_cons_zero, List.getElem?_cons_succ] at p0 p1 p2 p3 p4
      have z0 := block_cell (i := 0) GZ.out
      have z1 := block_cell (i := 1) GZ.out
      have z2 := block_cell (i := 2) GZ.out
      have z3 := block_cell (i := 3) GZ.out
      have z4 := block_cell (i := 4) GZ.out
      simp only [List.getElem?_toArray, List.getElem?_cons_zero, List.getElem?_cons_succ] at z0 z1 z2 z3 z4
      have rf := fun i => blk_free (i := i) GZ.out
      go_wp2
      have xf : Ext w (((((wr.setCell ⟨w.heap.size + 1 + 1, 0, none⟩ (.int .i64 f.pl)).setCell ⟨w.heap.size + 1 + 1, 1, none⟩ (.int .i64 f.mi)).setCell ⟨w.heap.size + 1 + 1, 2, none⟩ (.slice g1 f.tr.length q1)).setCell ⟨w.heap.size + 1 + 1, 3, none⟩ (.slice g2 f.bl.length q2)).setCell ⟨w.heap.size + 1 + 1, 4, none⟩ (.slice D f.ct.length kd)) := ((((((hx0.trans hx).setCell (by show w.heap.size ≤ w.heap.size + 1 + 1; omega) _).setCell (by show w.heap.size ≤ w.heap.size + 1 + 1; omega) _).setCell (by show w.heap.size ≤ w.heap.size + 1 + 1; omega) _).setCell (by show w.heap.size ≤ w.heap.size + 1 + 1; omega) _).setCell (by show w.heap.size ≤ w.heap.size + 1 + 1; omega) _)
      have xg : BelS (fun i => i = w.heap.size + 1 + 1) wr (((((wr.setCell ⟨w.heap.size + 1 + 1, 0, none⟩ (.int .i64 f.pl)).setCell ⟨w.heap.size + 1 + 1, 1, none⟩ (.int .i64 f.mi)).setCell ⟨w.heap.size + 1 + 1, 2, none⟩ (.slice g1 f.tr.length q1)).setCell ⟨w.heap.size + 1 + 1, 3, none⟩ (.slice g2 f.bl.length q2)).setCell ⟨w.heap.size + 1 + 1, 4, none⟩ (.slice D f.ct.length kd)) := ((((((BelS.refl _ wr).setCell (S := fun i => i = w.heap.size + 1 + 1) ⟨w.heap.size + 1 + 1, 0, none⟩ _ rfl).setCell (S := fun i => i = w.heap.size + 1 + 1) ⟨w.heap.size + 1 + 1, 1, none⟩ _ rfl).setCell (S := fun i => i = w.heap.size + 1 + 1) ⟨w.heap.size + 1 + 1, 2, none⟩ _ rfl).setCell (S := fun i => i = w.heap.size + 1 + 1) ⟨w.heap.size + 1 + 1, 3, none⟩ _ rfl).setCell (S := fun i => i = w.heap.size + 1 + 1) ⟨w.heap.size + 1 + 1, 4, none⟩ _ rfl)
      have hgs : ∀ g, g = w.heap.size + 1 + 1 → ∃ cs T, wr.heap[g]? = some (.cells cs T (0, 0)) ∧ T ≠ 3 ∧ T ≠ 53 := fun g hg => by subst hg; exact ⟨_, _, GZ.out, by decide, by decide⟩
      have h1 := xg.own O1.out (fun g hg e => by subst e; exact own_ne O1.out GZ.out (by decide) hg)
      have h2 := xg.own O2.out (fun g hg e => by subst e; exact own_ne O2.out GZ.out (by decide) hg)
      have h3 := xg.own OD.out (fun g hg e => by subst e; exact own_ne OD.out GZ.out (by decide) hg)
      have h4 := OCt.keep xg hgs HOX.out
      have hB0 : w.heap.size ≤ W0.heap.size := hx0.size
      have hval : Value.agg #[.int .i64 f.pl, .int .i64 f.mi, .slice g1 f.tr.length q1, .slice g2 f.bl.length q2, .slice D f.ct.length kd] = fval (withF f (kn : Int) r) g1 q1 g2 q2 D kd := by
        have e : (withF f (kn : Int) r).ct.length = f.ct.length := by rw [HCT.out, HCTL.out]
        unfold fval
        rw [e]; rfl
      have hres : WithF (((((wr.setCell ⟨w.heap.size + 1 + 1, 0, none⟩ (.int .i64 f.pl)).setCell ⟨w.heap.size + 1 + 1, 1, none⟩ (.int .i64 f.mi)).setCell ⟨w.heap.size + 1 + 1, 2, none⟩ (.slice g1 f.tr.length q1)).setCell ⟨w.heap.size + 1 + 1, 3, none⟩ (.slice g2 f.bl.length q2)).setCell ⟨w.heap.size + 1 + 1, 4, none⟩ (.slice D f.ct.length kd)) w.heap.size (.agg #[.int .i64 f.pl, .int .i64 f.mi, .slice g1 f.tr.length q1, .slice g2 f.bl.length q2, .slice D f.ct.length kd]) (withF f (kn : Int) r) := by
        have e : (withF f (kn : Int) r).ct.length = f.ct.length := by rw [HCT.out, HCTL.out]
        refine ⟨g1, q1, g2, q2, D, kd, xs, hval, own_base h1 hB0, own_base h2 hB0, ?_, ?_⟩
        · rw [e]; exact own_base h3 hB0
        · rw [HCT.out]; exact OCt.baseW hB0 h4
      refine bodyPost_ret (v := .tuple #[.agg #[.int .i64 f.pl, .int .i64 f.mi, .slice g1 f.tr.length q1, .slice g2 f.bl.length q2, .slice D f.ct.length kd], .int .i64 0]) ?_ rfl ⟨_, by rw [HN.out], xf, fun _ => hres, fun h => absurd HN.out h⟩
      simp [results, Tryz.results30, go_sem, z0, z1, z2, z3, z4]
end Go.Proofs.YtpbpcplboikpcaaGreat
