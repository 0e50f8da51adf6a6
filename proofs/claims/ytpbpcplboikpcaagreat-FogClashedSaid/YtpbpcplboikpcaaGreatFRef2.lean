/- The walk of the reference's Check. Printed by my gen_fref2.py. -/
import Derived.Test.YtpbpcplboikpcaaGreatFRef1
import Derived.Test.YtpbpcplboikpcaaGreatG3
import Derived.BigQuiet
namespace Go.Proofs.YtpbpcplboikpcaaGreat
open Go Go.RowKit
set_option linter.unusedVariables false
set_option linter.unusedSimpArgs false

theorem asc_one (l : List Int) : ascL (l.take (0 + 1)) = true := by
  cases l with
  | nil => rfl
  | cons x l => cases l <;> rfl
theorem asc_next : ∀ {l : List Int} {j : Nat} {y z : Int}, l[j + 1]? = some y → l[j]? = some z → ascL (l.take (j + 1 + 1)) = (ascL (l.take (j + 1)) && decide (z < y))
  | [], _, _, _, h, _ => by simp at h
  | [a], j, _, _, h, _ => by simp at h
  | a :: b :: l, 0, y, z, h, k => by
    simp at h k; subst h k
    simp [ascL]
  | a :: b :: l, j + 1, y, z, h, k => by
    have := asc_next (l := b :: l) (j := j) (y := y) (z := z) (by simpa using h) (by simpa using k)
    simp only [List.take_succ_cons, ascL] at this ⊢
    rw [this, Bool.and_assoc]
theorem asc_bad {l : List Int} {j : Nat} {y z : Int} (h : l[j + 1]? = some y) (k : l[j]? = some z) (hq : y ≤ z) : ascL l = false := by
  rw [Bool.eq_false_iff]
  intro h2
  have h3 := ascL_iff.1 h2
  have h4 := List.pairwise_iff_getElem.1 h3 j (j + 1) (List.getElem?_eq_some_iff.1 k).1 (List.getElem?_eq_some_iff.1 h).1 (by omega)
  rw [(List.getElem?_eq_some_iff.1 k).2, (List.getElem?_eq_some_iff.1 h).2] at h4
  omega
theorem sameT_is (y z : Int × Int) : sameT y z = ((y.1 == z.1) && (y.2 == z.2) || (y.1 == z.2) && (y.2 == z.1)) := by
  rw [Bool.eq_iff_iff]
  simp only [sameT, sides, beq_iff_eq, Prod.mk.injEq, Bool.or_eq_true, Bool.and_eq_true]
  omega
def restF (f : Fg) : Int := if !difF f then 8 else if agT f then 5 else if !agR f then 5 else if !neF f then 6 else if !ordF f then 4 else 0
theorem checkF_there {f : Fg} (h1 : manyF f = true) (h2 : limF f = true) : checkF f = if thereF f ≠ 0 then thereF f else restF f := by
  unfold checkF thereF restF
  rw [h1, h2]
  cases trF f <;> cases bpF f <;> cases ctF f <;> simp

set_option maxRecDepth 100000 in
set_option maxHeartbeats 8000000 in
theorem refcheck_any (v : Value) (f : Fg) (d : List (List Int)) (w : World) (hf : RgR w v f d) (hs : f.sized) :
    Calls Tryz.prog 18 #[v] w fun e w' => e = .returned (.int .i64 (checkF f)) ∧ Ext w w' := by
  have HSZ := hid hs
  obtain ⟨s, A4, c4, rfl, hr, hd⟩ := hf
  obtain ⟨N, hN⟩ : ∃ N, checkF f = N := ⟨_, rfl⟩
  have HN := hid hN
  rw [hN]
  clear hN
  have HM : Hid (manyF f = false → N = 2) := fun h => by rw [← HN.out]; unfold checkF; rw [h]; rfl
  obtain ⟨z1, z2, z3, z4⟩ := hs
  have Z4 := hid z4
  clear z4
  obtain ⟨W0, hW0⟩ : ∃ W0, (w.alloc (.cells #[.int .i64 f.pl, .int .i64 f.mi, .slice s.a1 f.tr.length s.c1, .slice s.a2 f.bl.length s.c2, .slice s.a3 f.ct.length s.c3, .slice A4 d.length c4] 37)).alloc (.cells #[.int .i64 f.pl, .int .i64 f.mi, .slice s.a1 f.tr.length s.c1] 32) = W0 := ⟨_, rfl⟩
  have hx0 : Ext w W0 := by rw [← hW0]; exact (Ext.alloc (Ext.refl w) _).alloc _
  have FX : Hid (∀ w', Ext W0 w' → (w'.cell? ⟨w.heap.size, 0, none⟩ = some (.int .i64 f.pl) ∧ w'.cell? ⟨w.heap.size, 1, none⟩ = some (.int .i64 f.mi) ∧ w'.cell? ⟨w.heap.size, 2, none⟩ = some (.slice s.a1 f.tr.length s.c1) ∧ w'.cell? ⟨w.heap.size, 3, none⟩ = some (.slice s.a2 f.bl.length s.c2) ∧ w'.cell? ⟨w.heap.size, 4, none⟩ = some (.slice s.a3 f.ct.length s.c3) ∧ w'.cell? ⟨w.heap.size, 5, none⟩ = some (.slice A4 d.length c4)) ∧
      w'.cell? ⟨w.heap.size + 1, 0, none⟩ = some (.int .i64 f.pl) ∧ w'.cell? ⟨w.heap.size + 1, 1, none⟩ = some (.int .i64 f.mi) ∧ w'.cell? ⟨w.heap.size + 1, 2, none⟩ = some (.slice s.a1 f.tr.length s.c1)) := fun w' h =>
    ⟨⟨h.cell (by rw [← hW0]; simp [go_sem]), h.cell (by rw [← hW0]; simp [go_sem]), h.cell (by rw [← hW0]; simp [go_sem]), h.cell (by rw [← hW0]; simp [go_sem]), h.cell (by rw [← hW0]; simp [go_sem]), h.cell (by rw [← hW0]; simp [go_sem])⟩, h.cell (by rw [← hW0]; simp [go_sem]), h.cell (by rw [← hW0]; simp [go_sem]), h.cell (by rw [← hW0]; simp [go_sem])⟩
  obtain ⟨⟨q0, q1, q2, q3, q4, q5⟩, s0, s1, s2⟩ := FX.out W0 (Ext.refl _)
  unfold rval
  go_enter Tryz.func18, Tryz.ntmps18
  go_wp2_with fail
  try rw [hW0]
  clear hW0
  refine (off_any _ _ _ _).mono ?_
  rintro e w1 ⟨rfl, rfl⟩
  have hx := Ext.refl W0
  cases hq1 : inB f.pl 1 8
  · have HN2 : Hid (N = 2) := HM.out (by unfold manyF; rw [hq1]; simp)
    go_wp2
    go_ret
    exact ⟨ret_of (int_of HN2.out.symm), hx0.trans hx⟩
  have hpl := inB_iff.1 hq1
  have h1 := hpl.1
  have h8 := hpl.2
  go_wp2_with fail
  refine (off_any _ _ _ _).mono ?_
  rintro e w1 ⟨rfl, rfl⟩
  cases hq2 : inB f.mi 0 8
  · have HN2 : Hid (N = 2) := HM.out (by unfold manyF; rw [hq2]; simp)
    go_wp2
    go_ret
    exact ⟨ret_of (int_of HN2.out.symm), hx0.trans hx⟩
  by_cases h3 : 14 < f.tr.length
  · have h3' : (14 : Int) < (f.tr.length : Int) := by omega
    have HN2 : Hid (N = 2) := HM.out (by unfold manyF; rw [decide_eq_false (show ¬ f.tr.length ≤ 14 by omega)]; simp)
    go_wp2
    go_ret
    exact ⟨ret_of (int_of HN2.out.symm), hx0.trans hx⟩
  have h3' : ¬ (14 : Int) < (f.tr.length : Int) := by omega
  by_cases h4 : 8 < f.bl.length
  · have h4' : (8 : Int) < (f.bl.length : Int) := by omega
    have HN2 : Hid (N = 2) := HM.out (by unfold manyF; rw [decide_eq_false (show ¬ f.bl.length ≤ 8 by omega)]; simp)
    go_wp2
    go_ret
    exact ⟨ret_of (int_of HN2.out.symm), hx0.trans hx⟩
  have h4' : ¬ (8 : Int) < (f.bl.length : Int) := by omega
  go_wp2_with fail
  refine (off_any _ _ _ _).mono ?_
  rintro e w1 ⟨rfl, rfl⟩
  cases hq5 : inB (f.ct.length : Int) 1 3
  · have HN2 : Hid (N = 2) := HM.out (by unfold manyF; rw [hq5]; simp)
    go_wp2
    go_ret
    exact ⟨ret_of (int_of HN2.out.symm), hx0.trans hx⟩
  have HP := hid (show inB f.pl 1 8 = true ∧ inB f.mi 0 8 = true ∧ decide (f.tr.length ≤ 14) = true ∧ decide (f.bl.length ≤ 8) = true ∧ inB (f.ct.length : Int) 1 3 = true from ⟨hq1, hq2, by simp; omega, by simp; omega, hq5⟩)
  clear hq1 hq2 hq5 hpl
  go_wp2
  clear q0 q1 q2 q3 q4 q5 s0 s1 s2
  go_loopw [4] (fun i wr => ∃ k : Nat, k ≤ f.ct.length ∧ i = .int .i64 (k : Int) ∧ Ext W0 wr ∧ Hid ((f.ct.take k).all (fun c => decide (c.rp.length ≤ 8)) = true)) (fun i _ => f.ct.length - (intOf i).toNat)
  case atStart => exact ⟨0, Nat.zero_le _, rfl, hx, rfl⟩
  case round =>
    obtain ⟨k, hk, rfl, hx, HQ⟩ := hrel
    obtain ⟨⟨q0, q1, q2, q3, q4, q5⟩, s0, s1, s2⟩ := FX.out wr hx
    by_cases hlt : k < f.ct.length
    · have hlt' : (k : Int) < (f.ct.length : Int) := by omega
      obtain ⟨x, hxk⟩ := get_of_lt f.ct k hlt
      have HX := hid hxk
      obtain ⟨b, off, A5, c5, A6, c6, e1, g0, g1, hst, hrp, -, -⟩ := (hr.ct.ext (hx0.trans hx)).at_ hxk
      have hzx := Z4.out x (mem_of_get hxk)
      clear hxk
      rw [e1] at q4
      clear e1
      have H : Hid (0 = 0) := rfl
      by_cases hq : 8 < x.rp.length
      · have hq' : (8 : Int) < (x.rp.length : Int) := by omega
        have HN2 : Hid (N = 2) := HM.out (by unfold manyF; rw [all_false (l := f.ct) (p := fun c => decide (c.rp.length ≤ 8)) HX.out (by simp; omega)]; simp)
        go_wp2
        go_ret
        exact ⟨ret_of (int_of HN2.out.symm), hx0.trans hx⟩
      · have hq' : ¬ (8 : Int) < (x.rp.length : Int) := by omega
        have HQ2 : Hid ((f.ct.take (k + 1)).all (fun c => decide (c.rp.length ≤ 8)) = true) := all_take HQ.out HX.out (by simp; omega)
        clear HQ HX H
        go_wp2
        go_roundw
        case rel => exact ⟨k + 1, by omega, by go_num, hx, HQ2⟩
        case measure => simp [intOf]; omega
    · have hlt' : ¬ (k : Int) < (f.ct.length : Int) := by omega
      have HALL : Hid (f.ct.all (fun c => decide (c.rp.length ≤ 8)) = true) := all_full HQ.out (by omega)
      clear HQ
      have HMA : Hid (manyF f = true) := by unfold Hid manyF; rw [HP.out.1, HP.out.2.1, HP.out.2.2.1, HP.out.2.2.2.1, HP.out.2.2.2.2, HALL.out]; rfl
      clear HALL
      obtain ⟨wo, rfl⟩ : ∃ wo : World, wo = wr := ⟨_, rfl⟩
      go_wp2
      clear q0 q1 q2 q3 q4 q5 s0 s1 s2
      go_loopw [5] (fun i wr => ∃ k : Nat, k ≤ f.bl.length ∧ i = .int .i64 (k : Int) ∧ Ext W0 wr ∧ Hid ((f.bl.take k).all (fun b => inB b.lo 0 7 && miOK f b.mi) = true)) (fun i _ => f.bl.length - (intOf i).toNat)
      case atStart => exact ⟨0, Nat.zero_le _, rfl, hx, rfl⟩
      case round =>
        obtain ⟨k, hk, rfl, hx, HQ⟩ := hrel
        obtain ⟨⟨q0, q1, q2, q3, q4, q5⟩, s0, s1, s2⟩ := FX.out wr hx
        by_cases hlt : k < f.bl.length
        · have hlt' : (k : Int) < (f.bl.length : Int) := by omega
          obtain ⟨x, hxk⟩ := get_of_lt f.bl k hlt
          have HX := hid hxk
          obtain ⟨b, off, e1, g0, g1, g2⟩ := Blasts.at_ (Rows.ext hr.bl (hx0.trans hx)) hxk
          clear hxk
          rw [e1] at q3
          clear e1
          have FY : Hid (∀ w', Ext wr w' → w'.cell? ⟨w.heap.size, 3, none⟩ = some (.slice (some ⟨b, off, none⟩) f.bl.length s.c2) ∧ w'.cell? ⟨w.heap.size + 1, 1, none⟩ = some (.int .i64 f.mi) ∧ w'.cell? ⟨b, off + k * 3, none⟩ = some (.int .i64 x.mi) ∧ w'.cell? ⟨b, off + k * 3 + 2, none⟩ = some (.int .i64 x.lo)) := fun w' h => ⟨h.cell q3, h.cell s1, h.cell g0, h.cell g2⟩
          have H : Hid ((inB x.lo 0 7 && miOK f x.mi) = false → N = 3) := fun hq => by
            rw [← HN.out]
            unfold checkF
            rw [HMA.out]
            unfold limF
            rw [all_false (p := fun b => inB b.lo 0 7 && miOK f b.mi) HX.out hq]
            rfl
          unfold miOK at H
          go_wp2_with fail
          clear q0 q1 q2 q3 q4 q5 s0 s1 s2 g0 g1 g2
          cases hq : inB x.lo 0 7
          · refine wp_region_shut Ext (fun w' => Ext wr w') (fun | 6 => some (fun v _ => v = .bool true) | _ => none) (by kernel_rfl) (by kernel_rfl) (fun _ _ h k => h.trans k) ?hTb (Ext.drew (Ext.refl wr)) ?_
            case hTb =>
              intro i R hR
              match i, hR with
              | 6, hR => cases hR; exact fun _ _ _ h _ => h
            refine wM_val ?ub0 rfl rfl Ext.refl (fun w' hD => ?hb0) (fun phb0 => ?nb0)
            case hb0 =>
              obtain ⟨d0, d1, d2, d3⟩ := FY.out _ hD.1
              go_simp; rfl
            simp only [Act.put, List.setIfInBounds_toArray, List.set_cons_succ, List.set_cons_zero, Nat.reduceAdd]
            refine wM_val ?ub1 rfl rfl Ext.refl (fun w' hD => ?hb1) (fun phb1 => ?nb1)
            case hb1 =>
              obtain ⟨d0, d1, d2, d3⟩ := FY.out _ hD.1
              go_simp; rfl
            simp only [Act.put, List.setIfInBounds_toArray, List.set_cons_succ, List.set_cons_zero, Nat.reduceAdd]
            refine wM_val ?ub2 rfl rfl Ext.refl (fun w' hD => ?hb2) (fun phb2 => ?nb2)
            case hb2 =>
              obtain ⟨d0, d1, d2, d3⟩ := FY.out _ hD.1
              go_simp; rfl
            simp only [Act.put, List.setIfInBounds_toArray, List.set_cons_succ, List.set_cons_zero, Nat.reduceAdd]
            refine wM_val ?ub3 rfl rfl Ext.refl (fun w' hD => ?hb3) (fun phb3 => ?nb3)
            case hb3 =>
              obtain ⟨d0, d1, d2, d3⟩ := FY.out _ hD.1
              go_simp; rfl
            simp only [Act.put, List.setIfInBounds_toArray, List.set_cons_succ, List.set_cons_zero, Nat.reduceAdd]
            refine wM_val ?ub4 rfl rfl Ext.refl (fun w' hD => ?hb4) (fun phb4 => ?nb4)
            case hb4 =>
              obtain ⟨d0, d1, d2, d3⟩ := FY.out _ hD.1
              go_simp; rfl
            simp only [Act.put, List.setIfInBounds_toArray, List.set_cons_succ, List.set_cons_zero, Nat.reduceAdd]
            refine wM_val ?ub5 rfl rfl Ext.refl (fun w' hD => ?hb5) (fun phb5 => ?nb5)
            case hb5 =>
              obtain ⟨d0, d1, d2, d3⟩ := FY.out _ hD.1
              go_simp; rfl
            simp only [Act.put, List.setIfInBounds_toArray, List.set_cons_succ, List.set_cons_zero, Nat.reduceAdd]
            refine wM_op _ rfl rfl (opens_call ?fb6 ?gb6 (fun w' hD => ?hb6) (fun w' hD => ?cb6)) (fun v6 hv6 => ?nb6)
            case hb6 => go_simp; constructor <;> rfl
            case cb6 =>
              refine (off_any _ _ _ w').mono ?_
              rintro e w2 ⟨rfl, rfl⟩
              exact ⟨_, rfl, Ext.refl _, by rw [hq]; rfl⟩
            obtain ⟨_, -, -, rfl⟩ := hv6
            simp only [Act.put, List.setIfInBounds_toArray, List.set_cons_succ, List.set_cons_zero, Nat.reduceAdd]
            refine wM_val ?ub7 rfl rfl Ext.refl (fun w' hD => ?hb7) (fun phb7 => ?nb7)
            case hb7 =>
              obtain ⟨d0, d1, d2, d3⟩ := FY.out _ hD.1
              go_simp; rfl
            simp only [Act.put, List.setIfInBounds_toArray, List.set_cons_succ, List.set_cons_zero, Nat.reduceAdd]
            refine wM_skip rfl ?_
            simp only [Act.put, List.setIfInBounds_toArray, List.set_cons_succ, List.set_cons_zero, Nat.reduceAdd]
            refine wM_skip rfl ?_
            simp only [Act.put, List.setIfInBounds_toArray, List.set_cons_succ, List.set_cons_zero, Nat.reduceAdd]
            refine wM_skip rfl ?_
            simp only [Act.put, List.setIfInBounds_toArray, List.set_cons_succ, List.set_cons_zero, Nat.reduceAdd]
            refine wM_skip rfl ?_
            simp only [Act.put, List.setIfInBounds_toArray, List.set_cons_succ, List.set_cons_zero, Nat.reduceAdd]
            refine wM_skip rfl ?_
            simp only [Act.put, List.setIfInBounds_toArray, List.set_cons_succ, List.set_cons_zero, Nat.reduceAdd]
            refine wM_skip rfl ?_
            simp only [Act.put, List.setIfInBounds_toArray, List.set_cons_succ, List.set_cons_zero, Nat.reduceAdd]
            refine wM_skip rfl ?_
            simp only [Act.put, List.setIfInBounds_toArray, List.set_cons_succ, List.set_cons_zero, Nat.reduceAdd]
            refine wM_skip rfl ?_
            simp only [Act.put, List.setIfInBounds_toArray, List.set_cons_succ, List.set_cons_zero, Nat.reduceAdd]
            refine wM_skip rfl ?_
            simp only [Act.put, List.setIfInBounds_toArray, List.set_cons_succ, List.set_cons_zero, Nat.reduceAdd]
            refine wM_val ?ub17 rfl rfl Ext.refl (fun w' hD => ?hb17) (fun phb17 => ?nb17)
            case hb17 =>
              obtain ⟨d0, d1, d2, d3⟩ := FY.out _ hD.1
              go_simp; rfl
            simp only [Act.put, List.setIfInBounds_toArray, List.set_cons_succ, List.set_cons_zero, Nat.reduceAdd]
            refine wM_nil ?_
            intro w9 hw9 hF9
            have hx := hx.trans hw9
            clear FY
            have HN2 : Hid (N = 3) := H.out (by rw [hq]; rfl)
            go_wp2
            go_ret
            exact ⟨ret_of (int_of HN2.out.symm), hx0.trans hx⟩
          · cases hq2 : inB x.mi 0 f.mi
            · refine wp_region_shut Ext (fun w' => Ext wr w') (fun | 6 => some (fun v _ => v = .bool false) | 16 => some (fun v _ => v = .bool true) | _ => none) (by kernel_rfl) (by kernel_rfl) (fun _ _ h k => h.trans k) ?hTc (Ext.drew (Ext.refl wr)) ?_
              case hTc =>
                intro i R hR
                match i, hR with
                | 6, hR => cases hR; exact fun _ _ _ h _ => h
                | 16, hR => cases hR; exact fun _ _ _ h _ => h
              refine wM_val ?uc0 rfl rfl Ext.refl (fun w' hD => ?hc0) (fun phc0 => ?nc0)
              case hc0 =>
                obtain ⟨d0, d1, d2, d3⟩ := FY.out _ hD.1
                go_simp; rfl
              simp only [Act.put, List.setIfInBounds_toArray, List.set_cons_succ, List.set_cons_zero, Nat.reduceAdd]
              refine wM_val ?uc1 rfl rfl Ext.refl (fun w' hD => ?hc1) (fun phc1 => ?nc1)
              case hc1 =>
                obtain ⟨d0, d1, d2, d3⟩ := FY.out _ hD.1
                go_simp; rfl
              simp only [Act.put, List.setIfInBounds_toArray, List.set_cons_succ, List.set_cons_zero, Nat.reduceAdd]
              refine wM_val ?uc2 rfl rfl Ext.refl (fun w' hD => ?hc2) (fun phc2 => ?nc2)
              case hc2 =>
                obtain ⟨d0, d1, d2, d3⟩ := FY.out _ hD.1
                go_simp; rfl
              simp only [Act.put, List.setIfInBounds_toArray, List.set_cons_succ, List.set_cons_zero, Nat.reduceAdd]
              refine wM_val ?uc3 rfl rfl Ext.refl (fun w' hD => ?hc3) (fun phc3 => ?nc3)
              case hc3 =>
                obtain ⟨d0, d1, d2, d3⟩ := FY.out _ hD.1
                go_simp; rfl
              simp only [Act.put, List.setIfInBounds_toArray, List.set_cons_succ, List.set_cons_zero, Nat.reduceAdd]
              refine wM_val ?uc4 rfl rfl Ext.refl (fun w' hD => ?hc4) (fun phc4 => ?nc4)
              case hc4 =>
                obtain ⟨d0, d1, d2, d3⟩ := FY.out _ hD.1
                go_simp; rfl
              simp only [Act.put, List.setIfInBounds_toArray, List.set_cons_succ, List.set_cons_zero, Nat.reduceAdd]
              refine wM_val ?uc5 rfl rfl Ext.refl (fun w' hD => ?hc5) (fun phc5 => ?nc5)
              case hc5 =>
                obtain ⟨d0, d1, d2, d3⟩ := FY.out _ hD.1
                go_simp; rfl
              simp only [Act.put, List.setIfInBounds_toArray, List.set_cons_succ, List.set_cons_zero, Nat.reduceAdd]
              refine wM_op _ rfl rfl (opens_call ?fc6 ?gc6 (fun w' hD => ?hc6) (fun w' hD => ?cc6)) (fun v6 hv6 => ?nc6)
              case hc6 => go_simp; constructor <;> rfl
              case cc6 =>
                refine (off_any _ _ _ w').mono ?_
                rintro e w2 ⟨rfl, rfl⟩
                exact ⟨_, rfl, Ext.refl _, by rw [hq]; rfl⟩
              obtain ⟨_, -, -, rfl⟩ := hv6
              simp only [Act.put, List.setIfInBounds_toArray, List.set_cons_succ, List.set_cons_zero, Nat.reduceAdd]
              refine wM_val ?uc7 rfl rfl Ext.refl (fun w' hD => ?hc7) (fun phc7 => ?nc7)
              case hc7 =>
                obtain ⟨d0, d1, d2, d3⟩ := FY.out _ hD.1
                go_simp; rfl
              simp only [Act.put, List.setIfInBounds_toArray, List.set_cons_succ, List.set_cons_zero, Nat.reduceAdd]
              refine wM_val ?uc8 rfl rfl Ext.refl (fun w' hD => ?hc8) (fun phc8 => ?nc8)
              case hc8 =>
                obtain ⟨d0, d1, d2, d3⟩ := FY.out _ hD.1
                go_simp; rfl
              simp only [Act.put, List.setIfInBounds_toArray, List.set_cons_succ, List.set_cons_zero, Nat.reduceAdd]
              refine wM_val ?uc9 rfl rfl Ext.refl (fun w' hD => ?hc9) (fun phc9 => ?nc9)
              case hc9 =>
                obtain ⟨d0, d1, d2, d3⟩ := FY.out _ hD.1
                go_simp; rfl
              simp only [Act.put, List.setIfInBounds_toArray, List.set_cons_succ, List.set_cons_zero, Nat.reduceAdd]
              refine wM_val ?uc10 rfl rfl Ext.refl (fun w' hD => ?hc10) (fun phc10 => ?nc10)
              case hc10 =>
                obtain ⟨d0, d1, d2, d3⟩ := FY.out _ hD.1
                go_simp; rfl
              simp only [Act.put, List.setIfInBounds_toArray, List.set_cons_succ, List.set_cons_zero, Nat.reduceAdd]
              refine wM_val ?uc11 rfl rfl Ext.refl (fun w' hD => ?hc11) (fun phc11 => ?nc11)
              case hc11 =>
                obtain ⟨d0, d1, d2, d3⟩ := FY.out _ hD.1
                go_simp; rfl
              simp only [Act.put, List.setIfInBounds_toArray, List.set_cons_succ, List.set_cons_zero, Nat.reduceAdd]
              refine wM_val ?uc12 rfl rfl Ext.refl (fun w' hD => ?hc12) (fun phc12 => ?nc12)
              case hc12 =>
                obtain ⟨d0, d1, d2, d3⟩ := FY.out _ hD.1
                go_simp; rfl
              simp only [Act.put, List.setIfInBounds_toArray, List.set_cons_succ, List.set_cons_zero, Nat.reduceAdd]
              refine wM_val ?uc13 rfl rfl Ext.refl (fun w' hD => ?hc13) (fun phc13 => ?nc13)
              case hc13 =>
                obtain ⟨d0, d1, d2, d3⟩ := FY.out _ hD.1
                go_simp; rfl
              simp only [Act.put, List.setIfInBounds_toArray, List.set_cons_succ, List.set_cons_zero, Nat.reduceAdd]
              refine wM_val ?uc14 rfl rfl Ext.refl (fun w' hD => ?hc14) (fun phc14 => ?nc14)
              case hc14 =>
                obtain ⟨d0, d1, d2, d3⟩ := FY.out _ hD.1
                go_simp; rfl
              simp only [Act.put, List.setIfInBounds_toArray, List.set_cons_succ, List.set_cons_zero, Nat.reduceAdd]
              refine wM_val ?uc15 rfl rfl Ext.refl (fun w' hD => ?hc15) (fun phc15 => ?nc15)
              case hc15 =>
                obtain ⟨d0, d1, d2, d3⟩ := FY.out _ hD.1
                go_simp; rfl
              simp only [Act.put, List.setIfInBounds_toArray, List.set_cons_succ, List.set_cons_zero, Nat.reduceAdd]
              refine wM_op _ rfl rfl (opens_call ?fc16 ?gc16 (fun w' hD => ?hc16) (fun w' hD => ?cc16)) (fun v16 hv16 => ?nc16)
              case hc16 => go_simp; constructor <;> rfl
              case cc16 =>
                refine (off_any _ _ _ w').mono ?_
                rintro e w2 ⟨rfl, rfl⟩
                exact ⟨_, rfl, Ext.refl _, by rw [hq2]; rfl⟩
              obtain ⟨_, -, -, rfl⟩ := hv16
              simp only [Act.put, List.setIfInBounds_toArray, List.set_cons_succ, List.set_cons_zero, Nat.reduceAdd]
              refine wM_val ?uc17 rfl rfl Ext.refl (fun w' hD => ?hc17) (fun phc17 => ?nc17)
              case hc17 =>
                obtain ⟨d0, d1, d2, d3⟩ := FY.out _ hD.1
                go_simp; rfl
              simp only [Act.put, List.setIfInBounds_toArray, List.set_cons_succ, List.set_cons_zero, Nat.reduceAdd]
              refine wM_nil ?_
              intro w9 hw9 hF9
              have hx := hx.trans hw9
              clear FY
              have HN2 : Hid (N = 3) := H.out (by rw [hq, hq2]; rfl)
              go_wp2
              go_ret
              exact ⟨ret_of (int_of HN2.out.symm), hx0.trans hx⟩
            · refine wp_region_shut Ext (fun w' => Ext wr w') (fun | 6 => some (fun v _ => v = .bool false) | 16 => some (fun v _ => v = .bool false) | _ => none) (by kernel_rfl) (by kernel_rfl) (fun _ _ h k => h.trans k) ?hTd (Ext.drew (Ext.refl wr)) ?_
              case hTd =>
                intro i R hR
                match i, hR with
                | 6, hR => cases hR; exact fun _ _ _ h _ => h
                | 16, hR => cases hR; exact fun _ _ _ h _ => h
              refine wM_val ?ud0 rfl rfl Ext.refl (fun w' hD => ?hd0) (fun phd0 => ?nd0)
              case hd0 =>
                obtain ⟨d0, d1, d2, d3⟩ := FY.out _ hD.1
                go_simp; rfl
              simp only [Act.put, List.setIfInBounds_toArray, List.set_cons_succ, List.set_cons_zero, Nat.reduceAdd]
              refine wM_val ?ud1 rfl rfl Ext.refl (fun w' hD => ?hd1) (fun phd1 => ?nd1)
              case hd1 =>
                obtain ⟨d0, d1, d2, d3⟩ := FY.out _ hD.1
                go_simp; rfl
              simp only [Act.put, List.setIfInBounds_toArray, List.set_cons_succ, List.set_cons_zero, Nat.reduceAdd]
              refine wM_val ?ud2 rfl rfl Ext.refl (fun w' hD => ?hd2) (fun phd2 => ?nd2)
              case hd2 =>
                obtain ⟨d0, d1, d2, d3⟩ := FY.out _ hD.1
                go_simp; rfl
              simp only [Act.put, List.setIfInBounds_toArray, List.set_cons_succ, List.set_cons_zero, Nat.reduceAdd]
              refine wM_val ?ud3 rfl rfl Ext.refl (fun w' hD => ?hd3) (fun phd3 => ?nd3)
              case hd3 =>
                obtain ⟨d0, d1, d2, d3⟩ := FY.out _ hD.1
                go_simp; rfl
              simp only [Act.put, List.setIfInBounds_toArray, List.set_cons_succ, List.set_cons_zero, Nat.reduceAdd]
              refine wM_val ?ud4 rfl rfl Ext.refl (fun w' hD => ?hd4) (fun phd4 => ?nd4)
              case hd4 =>
                obtain ⟨d0, d1, d2, d3⟩ := FY.out _ hD.1
                go_simp; rfl
              simp only [Act.put, List.setIfInBounds_toArray, List.set_cons_succ, List.set_cons_zero, Nat.reduceAdd]
              refine wM_val ?ud5 rfl rfl Ext.refl (fun w' hD => ?hd5) (fun phd5 => ?nd5)
              case hd5 =>
                obtain ⟨d0, d1, d2, d3⟩ := FY.out _ hD.1
                go_simp; rfl
              simp only [Act.put, List.setIfInBounds_toArray, List.set_cons_succ, List.set_cons_zero, Nat.reduceAdd]
              refine wM_op _ rfl rfl (opens_call ?fd6 ?gd6 (fun w' hD => ?hd6) (fun w' hD => ?cd6)) (fun v6 hv6 => ?nd6)
              case hd6 => go_simp; constructor <;> rfl
              case cd6 =>
                refine (off_any _ _ _ w').mono ?_
                rintro e w2 ⟨rfl, rfl⟩
                exact ⟨_, rfl, Ext.refl _, by rw [hq]; rfl⟩
              obtain ⟨_, -, -, rfl⟩ := hv6
              simp only [Act.put, List.setIfInBounds_toArray, List.set_cons_succ, List.set_cons_zero, Nat.reduceAdd]
              refine wM_val ?ud7 rfl rfl Ext.refl (fun w' hD => ?hd7) (fun phd7 => ?nd7)
              case hd7 =>
                obtain ⟨d0, d1, d2, d3⟩ := FY.out _ hD.1
                go_simp; rfl
              simp only [Act.put, List.setIfInBounds_toArray, List.set_cons_succ, List.set_cons_zero, Nat.reduceAdd]
              refine wM_val ?ud8 rfl rfl Ext.refl (fun w' hD => ?hd8) (fun phd8 => ?nd8)
              case hd8 =>
                obtain ⟨d0, d1, d2, d3⟩ := FY.out _ hD.1
                go_simp; rfl
              simp only [Act.put, List.setIfInBounds_toArray, List.set_cons_succ, List.set_cons_zero, Nat.reduceAdd]
              refine wM_val ?ud9 rfl rfl Ext.refl (fun w' hD => ?hd9) (fun phd9 => ?nd9)
              case hd9 =>
                obtain ⟨d0, d1, d2, d3⟩ := FY.out _ hD.1
                go_simp; rfl
              simp only [Act.put, List.setIfInBounds_toArray, List.set_cons_succ, List.set_cons_zero, Nat.reduceAdd]
              refine wM_val ?ud10 rfl rfl Ext.refl (fun w' hD => ?hd10) (fun phd10 => ?nd10)
              case hd10 =>
                obtain ⟨d0, d1, d2, d3⟩ := FY.out _ hD.1
                go_simp; rfl
              simp only [Act.put, List.setIfInBounds_toArray, List.set_cons_succ, List.set_cons_zero, Nat.reduceAdd]
              refine wM_val ?ud11 rfl rfl Ext.refl (fun w' hD => ?hd11) (fun phd11 => ?nd11)
              case hd11 =>
                obtain ⟨d0, d1, d2, d3⟩ := FY.out _ hD.1
                go_simp; rfl
              simp only [Act.put, List.setIfInBounds_toArray, List.set_cons_succ, List.set_cons_zero, Nat.reduceAdd]
              refine wM_val ?ud12 rfl rfl Ext.refl (fun w' hD => ?hd12) (fun phd12 => ?nd12)
              case hd12 =>
                obtain ⟨d0, d1, d2, d3⟩ := FY.out _ hD.1
                go_simp; rfl
              simp only [Act.put, List.setIfInBounds_toArray, List.set_cons_succ, List.set_cons_zero, Nat.reduceAdd]
              refine wM_val ?ud13 rfl rfl Ext.refl (fun w' hD => ?hd13) (fun phd13 => ?nd13)
              case hd13 =>
                obtain ⟨d0, d1, d2, d3⟩ := FY.out _ hD.1
                go_simp; rfl
              simp only [Act.put, List.setIfInBounds_toArray, List.set_cons_succ, List.set_cons_zero, Nat.reduceAdd]
              refine wM_val ?ud14 rfl rfl Ext.refl (fun w' hD => ?hd14) (fun phd14 => ?nd14)
              case hd14 =>
                obtain ⟨d0, d1, d2, d3⟩ := FY.out _ hD.1
                go_simp; rfl
              simp only [Act.put, List.setIfInBounds_toArray, List.set_cons_succ, List.set_cons_zero, Nat.reduceAdd]
              refine wM_val ?ud15 rfl rfl Ext.refl (fun w' hD => ?hd15) (fun phd15 => ?nd15)
              case hd15 =>
                obtain ⟨d0, d1, d2, d3⟩ := FY.out _ hD.1
                go_simp; rfl
              simp only [Act.put, List.setIfInBounds_toArray, List.set_cons_succ, List.set_cons_zero, Nat.reduceAdd]
              refine wM_op _ rfl rfl (opens_call ?fd16 ?gd16 (fun w' hD => ?hd16) (fun w' hD => ?cd16)) (fun v16 hv16 => ?nd16)
              case hd16 => go_simp; constructor <;> rfl
              case cd16 =>
                refine (off_any _ _ _ w').mono ?_
                rintro e w2 ⟨rfl, rfl⟩
                exact ⟨_, rfl, Ext.refl _, by rw [hq2]; rfl⟩
              obtain ⟨_, -, -, rfl⟩ := hv16
              simp only [Act.put, List.setIfInBounds_toArray, List.set_cons_succ, List.set_cons_zero, Nat.reduceAdd]
              refine wM_val ?ud17 rfl rfl Ext.refl (fun w' hD => ?hd17) (fun phd17 => ?nd17)
              case hd17 =>
                obtain ⟨d0, d1, d2, d3⟩ := FY.out _ hD.1
                go_simp; rfl
              simp only [Act.put, List.setIfInBounds_toArray, List.set_cons_succ, List.set_cons_zero, Nat.reduceAdd]
              refine wM_nil ?_
              intro w9 hw9 hF9
              have hx := hx.trans hw9
              clear FY
              have HQ2 : Hid ((f.bl.take (k + 1)).all (fun b => inB b.lo 0 7 && miOK f b.mi) = true) := all_take HQ.out HX.out (by unfold miOK; rw [hq, hq2]; rfl)
              clear HQ HX H
              go_wp2
              go_roundw
              case rel => exact ⟨k + 1, by omega, by go_num, hx, HQ2⟩
              case measure => simp [intOf]; omega
        · have hlt' : ¬ (k : Int) < (f.bl.length : Int) := by omega
          have HALL : Hid (f.bl.all (fun b => inB b.lo 0 7 && miOK f b.mi) = true) := all_full HQ.out (by omega)
          clear HQ
          have HLI : Hid (limF f = true) := HALL
          clear HALL
          obtain ⟨wo, rfl⟩ : ∃ wo : World, wo = wr := ⟨_, rfl⟩
          go_wp2_with fail
          clear q0 q1 q2 q3 q4 q5 s0 s1 s2
          refine (refthere_any (rval s f (.slice A4 d.length c4)) f d wo ⟨s, A4, c4, rfl, hr.ext (hx0.trans hx), hd.ext (hx0.trans hx)⟩ HSZ.out h1 h8).mono ?_
          rintro e w2 ⟨rfl, hb⟩
          have hx := hx.trans hb
          clear hb
          have HCT : Hid (checkF f = if thereF f ≠ 0 then thereF f else restF f) := checkF_there HMA.out HLI.out
          obtain ⟨T, hT⟩ : ∃ T, thereF f = T := ⟨_, rfl⟩
          have HT := hid hT
          rw [hT]
          clear hT
          by_cases hT0 : T = 0
          case neg =>
            have HN2 : Hid (N = T) := by
              unfold Hid
              rw [← HN.out, HCT.out, HT.out, if_pos hT0]
            have hTb : (T != 0) = true := by simpa using hT0
            go_wp2
            go_ret
            exact ⟨ret_of (int_of HN2.out.symm), hx0.trans hx⟩
          subst hT0
          have HCH : Hid (checkF f = restF f) := by unfold Hid; rw [HCT.out, HT.out]; rfl
          clear HT HCT
          obtain ⟨⟨q0, q1, q2, q3, q4, q5⟩, s0, s1, s2⟩ := FX.out w2 hx
          go_wp2
          clear q0 q1 q2 q3 q4 q5 s0 s1 s2
          go_loopw [7] (fun i wr => ∃ k : Nat, k ≤ f.tr.length ∧ i = .int .i64 (k : Int) ∧ Ext W0 wr ∧ Hid ((f.tr.take k).all (fun t => t.1 != t.2) = true)) (fun i _ => f.tr.length - (intOf i).toNat)
          case atStart => exact ⟨0, Nat.zero_le _, rfl, hx, rfl⟩
          case round =>
            obtain ⟨k, hk, rfl, hx, HQ⟩ := hrel
            obtain ⟨⟨q0, q1, q2, q3, q4, q5⟩, s0, s1, s2⟩ := FX.out wr hx
            by_cases hlt : k < f.tr.length
            · have hlt' : (k : Int) < (f.tr.length : Int) := by omega
              obtain ⟨x, hxk⟩ := get_of_lt f.tr k hlt
              have HX := hid hxk
              obtain ⟨b, off, e1, g0, g1⟩ := Prs.at_ (Rows.ext hr.tr (hx0.trans hx)) hxk
              clear hxk
              rw [e1] at s2
              clear e1
              have H : Hid (0 = 0) := rfl
              cases hq : (x.1 == x.2)
              · have HQ2 : Hid ((f.tr.take (k + 1)).all (fun t => t.1 != t.2) = true) := all_take HQ.out HX.out (by simp only [bne, hq]; rfl)
                clear HQ HX H
                go_wp2
                go_quiet (fail)
                go_wp2
                go_roundw
                case rel => exact ⟨k + 1, by omega, by go_num, hx.drewN _, HQ2⟩
                case measure => simp [intOf]; omega
              · have HN2 : Hid (N = 8) := by
                  unfold Hid
                  rw [← HN.out, HCH.out]
                  unfold restF difF
                  rw [all_false (p := fun t : Int × Int => t.1 != t.2) HX.out (by simp only [bne, hq]; rfl)]
                  rfl
                go_wp2
                go_quiet (fail)
                go_wp2
                go_ret
                exact ⟨ret_of (int_of HN2.out.symm), hx0.trans (hx.drewN _)⟩
            · have hlt' : ¬ (k : Int) < (f.tr.length : Int) := by omega
              have HALL : Hid (f.tr.all (fun t => t.1 != t.2) = true) := all_full HQ.out (by omega)
              clear HQ
              have HDI : Hid (difF f = true) := HALL
              obtain ⟨wo, rfl⟩ : ∃ wo : World, wo = wr := ⟨_, rfl⟩
              go_wp2
              clear q0 q1 q2 q3 q4 q5 s0 s1 s2
              go_loopw [8] (fun i wr => ∃ j : Nat, j ≤ f.tr.length ∧ i = .int .i64 (j : Int) ∧ Ext W0 wr ∧ Hid (againL sameT (f.tr.take j) (f.tr.drop j) = agT f)) (fun i _ => f.tr.length - (intOf i).toNat)
              case atStart => exact ⟨0, Nat.zero_le _, rfl, hx, rfl⟩
              case round =>
                obtain ⟨j, hj, rfl, hx, HF⟩ := hrel
                obtain ⟨⟨q0, q1, q2, q3, q4, q5⟩, s0, s1, s2⟩ := FX.out wr hx
                by_cases hlj : j < f.tr.length
                · have hlj' : (j : Int) < (f.tr.length : Int) := by omega
                  obtain ⟨y, hyj⟩ := get_of_lt f.tr j hlj
                  have HY := hid hyj
                  clear hyj
                  go_wp2
                  clear q0 q1 q2 q3 q4 q5 s0 s1 s2
                  go_loopw [9] (fun i wr => ∃ m : Nat, m ≤ j ∧ i = .int .i64 (m : Int) ∧ Ext W0 wr ∧ Hid ((f.tr.take m).any (sameT y) = false)) (fun i _ => f.tr.length - (intOf i).toNat)
                  case atStart => exact ⟨0, Nat.zero_le _, rfl, hx, rfl⟩
                  case round =>
                    obtain ⟨m, hm, rfl, hx, HQ2⟩ := hrel
                    obtain ⟨⟨q0, q1, q2, q3, q4, q5⟩, s0, s1, s2⟩ := FX.out wr hx
                    by_cases hlm : m < j
                    · have hlm' : (m : Int) < (j : Int) := by omega
                      obtain ⟨z, hzm⟩ := get_of_lt f.tr m (by omega)
                      obtain ⟨b5, o5, e2, g5, g5b⟩ := Prs.at_ (Rows.ext hr.tr (hx0.trans hx)) HY.out
                      obtain ⟨b6, o6, e3, g6, g6b⟩ := Prs.at_ (Rows.ext hr.tr (hx0.trans hx)) hzm
                      have e4 := e2.symm.trans e3
                      cases e4
                      rw [e2] at s2
                      clear e2 e3 q0 q1 q2 q3 q4 q5 s0 s1
                      have HZ := hid hzm
                      clear hzm
                      have hlm2 : (m : Int) < (f.tr.length : Int) := by omega
                      have HS := hid (sameT_is y z)
                      have H5 : Hid (sameT y z = true → N = 5) := fun hq => by
                        rw [← HN.out, HCH.out]
                        unfold restF
                        rw [HDI.out]
                        have : agT f = true := by
                          rw [← HF.out, againL_drop sameT f.tr j y HY.out, List.any_eq_true.2 ⟨z, List.mem_of_getElem? (i := m) (by rw [List.getElem?_take_of_lt hlm]; exact HZ.out), hq⟩]; rfl
                        rw [this]; rfl
                      have H6 : Hid (sameT y z = false → (f.tr.take (m + 1)).any (sameT y) = false) := fun hq => by
                        rw [take_next HZ.out, List.any_append, HQ2.out]; simp [hq]
                      clear HQ2 HZ
                      go_wp2
                      have s2a := fun o => (Ext.alloc (Ext.refl wr) o).cell s2
                      have s2b := fun o o' => ((Ext.alloc (Ext.refl wr) o).alloc o').cell s2
                      have g5a := fun o => (Ext.alloc (Ext.refl wr) o).cell g5
                      have g5c := fun o o' => ((Ext.alloc (Ext.refl wr) o).alloc o').cell g5
                      have h5a := fun o => (Ext.alloc (Ext.refl wr) o).cell g5b
                      have h5c := fun o o' => ((Ext.alloc (Ext.refl wr) o).alloc o').cell g5b
                      have g6a := fun o => (Ext.alloc (Ext.refl wr) o).cell g6
                      have g6c := fun o o' => ((Ext.alloc (Ext.refl wr) o).alloc o').cell g6
                      have h6a := fun o => (Ext.alloc (Ext.refl wr) o).cell g6b
                      have h6c := fun o o' => ((Ext.alloc (Ext.refl wr) o).alloc o').cell g6b
                      go_region
                      all_goals
                        cases c1 : (y.1 == z.1) <;> cases c2 : (y.2 == z.2) <;> cases c3 : (y.1 == z.2) <;> cases c4 : (y.2 == z.1)
                        all_goals
                          go_wp2
                          first
                            | (go_roundw
                               case rel => exact ⟨m + 1, by omega, by go_num, ((hx.alloc _).alloc _).drew, H6.out (by rw [HS.out, c1, c2, c3, c4]; rfl)⟩
                               case measure => simp [intOf]; omega)
                            | (have HN2 : Hid (N = 5) := H5.out (by rw [HS.out, c1, c2, c3, c4]; rfl)
                               go_ret
                               exact ⟨ret_of (int_of HN2.out.symm), hx0.trans ((hx.alloc _).alloc _).drew⟩)
                    · have hlm' : ¬ (m : Int) < (j : Int) := by omega
                      have HF2 : Hid (againL sameT (f.tr.take (j + 1)) (f.tr.drop (j + 1)) = agT f) := by
                        unfold Hid
                        have h := HF.out
                        rw [againL_drop sameT f.tr j y HY.out] at h
                        have e : m = j := by omega
                        have h2 := HQ2.out
                        rw [e] at h2
                        rw [h2] at h
                        exact h
                      clear HF HQ2 HY
                      go_wp2
                      go_roundw
                      case rel => exact ⟨j + 1, by omega, by go_num, hx, HF2⟩
                      case measure => simp [intOf]; omega
                · have hlj' : ¬ (j : Int) < (f.tr.length : Int) := by omega
                  have HAT : Hid (agT f = false) := by unfold Hid; rw [← HF.out]; exact againL_end sameT f.tr j (by omega) _
                  clear HF
                  obtain ⟨wo, rfl⟩ : ∃ wo : World, wo = wr := ⟨_, rfl⟩
                  go_wp2
                  clear q0 q1 q2 q3 q4 q5 s0 s1 s2
                  go_loopw [12] (fun i wr => ∃ k : Nat, k ≤ f.ct.length ∧ i = .int .i64 (k : Int) ∧ Ext W0 wr ∧ Hid ((f.ct.take k).all (fun c => !againL sameR [] c.rp) = true)) (fun i _ => f.ct.length - (intOf i).toNat)
                  case atStart => exact ⟨0, Nat.zero_le _, rfl, hx, rfl⟩
                  case round =>
                    obtain ⟨k, hk, rfl, hx, HQ⟩ := hrel
                    obtain ⟨⟨q0, q1, q2, q3, q4, q5⟩, s0, s1, s2⟩ := FX.out wr hx
                    by_cases hlt : k < f.ct.length
                    · have hlt' : (k : Int) < (f.ct.length : Int) := by omega
                      obtain ⟨x, hxk⟩ := get_of_lt f.ct k hlt
                      have HX := hid hxk
                      obtain ⟨b, off, A5, c5, A6, c6, e1, g0, g1, hst, hrp, -, -⟩ := (hr.ct.ext (hx0.trans hx)).at_ hxk
                      have hzx := Z4.out x (mem_of_get hxk)
                      clear hxk
                      rw [e1] at q4
                      clear e1
                      have H : Hid (againL sameR [] x.rp = true → N = 5) := fun hq => by
                        rw [← HN.out, HCH.out]
                        unfold restF
                        rw [HDI.out, HAT.out]
                        unfold agR
                        rw [all_false (p := fun c : Ct => !againL sameR [] c.rp) HX.out (by rw [hq]; rfl)]
                        rfl
                      obtain ⟨V, hV⟩ : ∃ V : World, V = wr := ⟨_, rfl⟩
                      subst hV
                      go_wp2
                      go_loopw [14] (fun i wr => ∃ j : Nat, j ≤ x.rp.length ∧ i = .int .i64 (j : Int) ∧ Ext V wr ∧ Hid (againL sameR (x.rp.take j) (x.rp.drop j) = againL sameR [] x.rp)) (fun i _ => x.rp.length - (intOf i).toNat)
                      case atStart => exact ⟨0, Nat.zero_le _, rfl, Ext.refl _, rfl⟩
                      case round =>
                        obtain ⟨j, hj, rfl, hxv, HF⟩ := hrel
                        by_cases hlj : j < x.rp.length
                        · have hlj' : (j : Int) < (x.rp.length : Int) := by omega
                          obtain ⟨y, hyj⟩ := get_of_lt x.rp j hlj
                          have HY := hid hyj
                          clear hyj
                          obtain ⟨V2, hV2⟩ : ∃ V : World, V = wr := ⟨_, rfl⟩
                          subst hV2
                          go_wp2
                          go_loopw [15] (fun i wr => ∃ m : Nat, m ≤ j ∧ i = .int .i64 (m : Int) ∧ Ext V wr ∧ Hid ((x.rp.take m).any (sameR y) = false)) (fun i _ => x.rp.length - (intOf i).toNat)
                          case atStart => exact ⟨0, Nat.zero_le _, rfl, hxv, rfl⟩
                          case round =>
                            obtain ⟨m, hm, rfl, hxm, HQ2⟩ := hrel
                            have hxw := hx.trans hxm
                            by_cases hlm : m < j
                            · have hlm' : (m : Int) < (j : Int) := by omega
                              obtain ⟨z, hzm⟩ := get_of_lt x.rp m (by omega)
                              obtain ⟨b5, o5, e2, g5, -⟩ := Reps.at_ (Rows.ext hrp hxm) HY.out
                              obtain ⟨b6, o6, e3, g6, -⟩ := Reps.at_ (Rows.ext hrp hxm) hzm
                              subst e2
                              cases e3
                              have HZ := hid hzm
                              clear hzm
                              cases hq : (y.bl == z.bl)
                              · have HQ3 : Hid ((x.rp.take (m + 1)).any (sameR y) = false) := by unfold Hid; rw [take_next HZ.out, List.any_append, HQ2.out]; simp only [List.any_cons, List.any_nil, sameR, hq]; rfl
                                clear HQ2 HZ
                                go_wp2
                                go_quiet (fail)
                                go_wp2
                                go_roundw
                                case rel => exact ⟨m + 1, by omega, by go_num, hxm.drewN _, HQ3⟩
                                case measure => simp [intOf]; omega
                              · have HN2 : Hid (N = 5) := H.out (by
                                  rw [← HF.out, againL_drop sameR x.rp j y HY.out, List.any_eq_true.2 ⟨z, List.mem_of_getElem? (i := m) (by rw [List.getElem?_take_of_lt hlm]; exact HZ.out), hq⟩]; rfl)
                                go_wp2
                                go_quiet (fail)
                                go_wp2
                                go_ret
                                exact ⟨ret_of (int_of HN2.out.symm), hx0.trans (hxw.drewN _)⟩
                            · have hlm' : ¬ (m : Int) < (j : Int) := by omega
                              have HF2 : Hid (againL sameR (x.rp.take (j + 1)) (x.rp.drop (j + 1)) = againL sameR [] x.rp) := by
                                unfold Hid
                                have h := HF.out
                                rw [againL_drop sameR x.rp j y HY.out] at h
                                have e : m = j := by omega
                                have h2 := HQ2.out
                                rw [e] at h2
                                rw [h2] at h
                                exact h
                              clear HF HQ2 HY
                              go_wp2
                              go_roundw
                              case rel => exact ⟨j + 1, by omega, by go_num, hxm, HF2⟩
                              case measure => simp [intOf]; omega
                        · have hlj' : ¬ (j : Int) < (x.rp.length : Int) := by omega
                          have HIN : Hid ((!againL sameR [] x.rp) = true) := by unfold Hid; rw [← HF.out, againL_end sameR x.rp j (by omega)]; rfl
                          have hx := hx.trans hxv
                          clear HF
                          have HQ2 : Hid ((f.ct.take (k + 1)).all (fun c => !againL sameR [] c.rp) = true) := all_take HQ.out HX.out (HIN.out)
                          clear HQ HX H
                          go_wp2
                          go_roundw
                          case rel => exact ⟨k + 1, by omega, by go_num, hx, HQ2⟩
                          case measure => simp [intOf]; omega
                    · have hlt' : ¬ (k : Int) < (f.ct.length : Int) := by omega
                      have HALL : Hid (f.ct.all (fun c => !againL sameR [] c.rp) = true) := all_full HQ.out (by omega)
                      clear HQ
                      have HAR : Hid (agR f = true) := HALL
                      obtain ⟨wo, rfl⟩ : ∃ wo : World, wo = wr := ⟨_, rfl⟩
                      go_wp2
                      go_loopw [16] (fun i wr => ∃ k : Nat, k ≤ f.ct.length ∧ i = .int .i64 (k : Int) ∧ Ext W0 wr ∧ Hid ((f.ct.take k).all (fun c => decide (0 < c.st.length)) = true)) (fun i _ => f.ct.length - (intOf i).toNat)
                      case atStart => exact ⟨0, Nat.zero_le _, rfl, hx, rfl⟩
                      case round =>
                        obtain ⟨k, hk, rfl, hx, HQ⟩ := hrel
                        obtain ⟨⟨q0, q1, q2, q3, q4, q5⟩, s0, s1, s2⟩ := FX.out wr hx
                        by_cases hlt : k < f.ct.length
                        · have hlt' : (k : Int) < (f.ct.length : Int) := by omega
                          obtain ⟨x, hxk⟩ := get_of_lt f.ct k hlt
                          have HX := hid hxk
                          obtain ⟨b, off, A5, c5, A6, c6, e1, g0, g1, hst, hrp, -, -⟩ := (hr.ct.ext (hx0.trans hx)).at_ hxk
                          have hzx := Z4.out x (mem_of_get hxk)
                          clear hxk
                          rw [e1] at q4
                          clear e1
                          have H : Hid (0 = 0) := rfl
                          by_cases hq : x.st.length = 0
                          · have HN2 : Hid (N = 6) := by
                              unfold Hid
                              rw [← HN.out, HCH.out]
                              unfold restF
                              rw [HDI.out, HAT.out, HAR.out]
                              unfold neF
                              rw [all_false (p := fun c : Ct => decide (0 < c.st.length)) HX.out (by simp [hq])]
                              rfl
                            have hqb : ((x.st.length : Int) == 0) = true := by rw [hq]; rfl
                            go_wp2
                            go_ret
                            exact ⟨ret_of (int_of HN2.out.symm), hx0.trans hx⟩
                          · have hqb : ((x.st.length : Int) == 0) = false := by simp only [beq_eq_false_iff_ne, ne_eq]; omega
                            have HQ2 : Hid ((f.ct.take (k + 1)).all (fun c => decide (0 < c.st.length)) = true) := all_take HQ.out HX.out (by simp; omega)
                            clear HQ HX H
                            go_wp2
                            go_roundw
                            case rel => exact ⟨k + 1, by omega, by go_num, hx, HQ2⟩
                            case measure => simp [intOf]; omega
                        · have hlt' : ¬ (k : Int) < (f.ct.length : Int) := by omega
                          have HALL : Hid (f.ct.all (fun c => decide (0 < c.st.length)) = true) := all_full HQ.out (by omega)
                          clear HQ
                          have HNE : Hid (neF f = true) := HALL
                          obtain ⟨wo, rfl⟩ : ∃ wo : World, wo = wr := ⟨_, rfl⟩
                          go_wp2
                          go_loopw [17] (fun i wr => ∃ k : Nat, k ≤ f.ct.length ∧ i = .int .i64 (k : Int) ∧ Ext W0 wr ∧ Hid ((f.ct.take k).all (fun c => ascL c.st) = true)) (fun i _ => f.ct.length - (intOf i).toNat)
                          case atStart => exact ⟨0, Nat.zero_le _, rfl, hx, rfl⟩
                          case round =>
                            obtain ⟨k, hk, rfl, hx, HQ⟩ := hrel
                            obtain ⟨⟨q0, q1, q2, q3, q4, q5⟩, s0, s1, s2⟩ := FX.out wr hx
                            by_cases hlt : k < f.ct.length
                            · have hlt' : (k : Int) < (f.ct.length : Int) := by omega
                              obtain ⟨x, hxk⟩ := get_of_lt f.ct k hlt
                              have HX := hid hxk
                              obtain ⟨b, off, A5, c5, A6, c6, e1, g0, g1, hst, hrp, -, -⟩ := (hr.ct.ext (hx0.trans hx)).at_ hxk
                              have hzx := Z4.out x (mem_of_get hxk)
                              clear hxk
                              rw [e1] at q4
                              clear e1
                              have hne : 0 < x.st.length := by
                                have := HNE.out
                                simp only [neF, List.all_eq_true, decide_eq_true_eq] at this
                                exact this x (mem_of_get HX.out)
                              have H : Hid (ascL x.st = false → N = 4) := fun hq => by
                                rw [← HN.out, HCH.out]
                                unfold restF
                                rw [HDI.out, HAT.out, HAR.out, HNE.out]
                                unfold ordF
                                rw [all_false (p := fun c : Ct => ascL c.st) HX.out hq]
                                rfl
                              go_wp2
                              obtain ⟨V, hV⟩ : ∃ V : World, V = wr := ⟨_, rfl⟩
                              subst hV
                              go_loopw [19] (fun i wr => ∃ j : Nat, j + 1 ≤ x.st.length ∧ i = .int .i64 ((j + 1 : Nat) : Int) ∧ Ext V wr ∧ Hid (ascL (x.st.take (j + 1)) = true)) (fun i _ => x.st.length - (intOf i).toNat)
                              case atStart => exact ⟨0, by omega, rfl, Ext.refl _, asc_one _⟩
                              case round =>
                                obtain ⟨j, hj, rfl, hxv, HQ2⟩ := hrel
                                have hx := hx.trans hxv
                                by_cases hlm : j + 1 < x.st.length
                                · have hlm' : ((j + 1 : Nat) : Int) < (x.st.length : Int) := by omega
                                  obtain ⟨y, hyj⟩ := get_of_lt x.st (j + 1) hlm
                                  obtain ⟨z, hzj⟩ := get_of_lt x.st j (by omega)
                                  obtain ⟨b5, o5, e2, g5⟩ := (hst.ext hxv).at_ hyj
                                  obtain ⟨b6, o6, e3, g6⟩ := (hst.ext hxv).at_ hzj
                                  have HY := hid (And.intro hyj hzj)
                                  clear hyj hzj
                                  subst e2
                                  cases e3
                                  have hw1 : IntKind.i64.wrap ((j : Int) + 1 - 1) = (j : Int) := by rw [show (j : Int) + 1 - 1 = j by omega]; exact IntWalk.i64_in _ ⟨by omega, by omega⟩
                                  have hw1b : IntKind.i64.wrap (((j + 1 : Nat) : Int) - 1) = (j : Int) := by rw [show ((j + 1 : Nat) : Int) - 1 = j by omega]; exact IntWalk.i64_in _ ⟨by omega, by omega⟩
                                  by_cases hq : y ≤ z
                                  · have HN2 : Hid (N = 4) := H.out (asc_bad HY.out.1 HY.out.2 hq)
                                    go_wp2
                                    go_quiet (fail)
                                    go_wp2
                                    go_ret
                                    exact ⟨ret_of (int_of HN2.out.symm), hx0.trans (hx.drewN _)⟩
                                  · have HQ3 : Hid (ascL (x.st.take (j + 1 + 1)) = true) := by unfold Hid; rw [asc_next HY.out.1 HY.out.2, HQ2.out]; simp; omega
                                    clear HQ2 HY
                                    go_wp2
                                    go_quiet (fail)
                                    go_wp2
                                    go_roundw
                                    case rel => exact ⟨j + 1, by omega, by go_num, hxv.drewN _, HQ3⟩
                                    case measure => simp [intOf]; omega
                                · have hlm' : ¬ ((j + 1 : Nat) : Int) < (x.st.length : Int) := by omega
                                  have HIN : Hid (ascL x.st = true) := by
                                    have h := HQ2.out
                                    rwa [List.take_of_length_le (by omega)] at h
                                  clear HQ2
                                  have HQ3 : Hid ((f.ct.take (k + 1)).all (fun c => ascL c.st) = true) := all_take HQ.out HX.out HIN.out
                                  clear HQ HX H
                                  go_wp2
                                  go_roundw
                                  case rel => exact ⟨k + 1, by omega, by go_num, hx, HQ3⟩
                                  case measure => simp [intOf]; omega
                            · have hlt' : ¬ (k : Int) < (f.ct.length : Int) := by omega
                              have HALL : Hid (f.ct.all (fun c => ascL c.st) = true) := all_full HQ.out (by omega)
                              clear HQ
                              have HN2 : Hid (N = 0) := by
                                unfold Hid
                                rw [← HN.out, HCH.out]
                                unfold restF ordF
                                rw [HDI.out, HAT.out, HAR.out, HNE.out, HALL.out]
                                rfl
                              go_wp2
                              go_ret
                              exact ⟨ret_of (int_of HN2.out.symm), hx0.trans hx⟩
end Go.Proofs.YtpbpcplboikpcaaGreat
