/- The walk of the reference's Fits. Printed by my gen_fref15.py. -/
import Derived.Test.YtpbpcplboikpcaaGreatG8
import Derived.Test.YtpbpcplboikpcaaGreatG9
import Derived.Test.YtpbpcplboikpcaaGreatFFits
namespace Go.Proofs.YtpbpcplboikpcaaGreat
open Go Go.RowKit Go.Shelf
set_option linter.unusedVariables false
set_option linter.unusedSimpArgs false

theorem ag_every {g : Mat} {f : Fg} {c : Ct} (m p : Nat) : agC g f c (selS (everyN c)) m p = agC g f c allF m p := agC_congr (every_sel c) m p
theorem fitAt_le {g : Mat} {f : Fg} {c : Ct} {l : List Int} {j : Nat} (hj : (List.range j).all (fitAt g f c l) = true) (h : fitAt g f c l j = true) : (List.range (j + 1)).all (fitAt g f c l) = true := by
  rw [List.range_succ, List.all_append, hj, List.all_cons, List.all_nil, h]; rfl
theorem fitAt_no {g : Mat} {f : Fg} {c : Ct} {l : List Int} {j : Nat} (hj : j < l.length) (h : fitAt g f c l j = false) : (List.range l.length).all (fitAt g f c l) = false := by
  rw [List.all_eq_false]
  exact ⟨j, by simpa using hj, by simp [h]⟩
set_option maxRecDepth 100000 in
set_option maxHeartbeats 8000000 in
theorem reffits_any (v : Value) (f : Fg) (k : Nat) (c : Ct) (AW : Option Addr) (kW : Nat) (l : List Int) (w : World) (hf : RgR w v f (distL f)) (hs : f.sized) (hok : FogOK f) (hc : f.ct[k]? = some c) (hW : Ints w AW l) (hll : l.length ≤ 1000) :
    Calls Tryz.prog 51 #[v, .int .i64 (k : Int), .slice AW l.length kW] w fun e w' => e = .returned (.bool (fitsM (farM f) f c l)) ∧ Ext w w' := by
  have hfr := fits_ref hok (mem_of_get hc) l
  obtain ⟨VV, hVV⟩ : ∃ VV, fitsM (farM f) f c l = VV := ⟨_, rfl⟩
  rw [hVV] at hfr ⊢
  have HFR : Hid (fitsR (farM f) f c l = VV) := hfr
  clear hfr hVV
  have HFF0 := hid hf
  obtain ⟨s, A4, c4, rfl, hr, hd⟩ := hf
  have hmi := hok.mi
  have hpl := hok.pl
  have hkl := (List.getElem?_eq_some_iff.1 hc).1
  have hkl' : (k : Int) < (f.ct.length : Int) := by omega
  have hcm := mem_of_get hc
  have h8 := hok.rn c hcm
  have HOK := hid hok
  have HC := hid hc
  have HS := hid hs
  have HWI := hid hW
  obtain ⟨W0, hW0⟩ : ∃ W0, w.alloc (.cells #[.int .i64 f.pl, .int .i64 f.mi, .slice s.a1 f.tr.length s.c1, .slice s.a2 f.bl.length s.c2, .slice s.a3 f.ct.length s.c3, .slice A4 (distL f).length c4] 37) = W0 := ⟨_, rfl⟩
  have hx0 : Ext w W0 := by rw [← hW0]; exact Ext.alloc (Ext.refl w) _
  obtain ⟨b0, o0, A5, k5, A6, k6, e1, g0, g1, hI, hR, -, -⟩ := (hr.ct.ext hx0).at_ hc
  have HE1 := hid e1
  have FX : Hid (∀ w', Ext W0 w' → w'.cell? ⟨w.heap.size, 0, none⟩ = some (.int .i64 f.pl) ∧ w'.cell? ⟨w.heap.size, 1, none⟩ = some (.int .i64 f.mi) ∧ w'.cell? ⟨w.heap.size, 2, none⟩ = some (.slice s.a1 f.tr.length s.c1) ∧ w'.cell? ⟨w.heap.size, 3, none⟩ = some (.slice s.a2 f.bl.length s.c2) ∧ w'.cell? ⟨w.heap.size, 4, none⟩ = some (.slice (some ⟨b0, o0, none⟩) f.ct.length s.c3) ∧ w'.cell? ⟨w.heap.size, 5, none⟩ = some (.slice A4 (distL f).length c4)) := fun w' h => ⟨h.cell (by rw [← hW0]; simp [go_sem]), h.cell (by rw [← hW0]; simp [go_sem]), h.cell (by rw [← hW0]; simp [go_sem]), h.cell (by rw [← hW0]; simp [go_sem]), by rw [← HE1.out]; exact h.cell (by rw [← hW0]; simp [go_sem]), h.cell (by rw [← hW0]; simp [go_sem])⟩
  have FC : Hid (∀ w', Ext W0 w' → w'.cell? ⟨b0, o0 + k * 2, none⟩ = some (.slice A5 c.st.length k5) ∧ w'.cell? ⟨b0, o0 + k * 2 + 1, none⟩ = some (.slice A6 c.rp.length k6)) := fun w' h => ⟨h.cell g0, h.cell g1⟩
  have HFF : Hid (∀ w', Ext W0 w' → RgR w' (.agg #[.int .i64 f.pl, .int .i64 f.mi, .slice s.a1 f.tr.length s.c1, .slice s.a2 f.bl.length s.c2, .slice (some ⟨b0, o0, none⟩) f.ct.length s.c3, .slice A4 (distL f).length c4]) f (distL f)) := fun w' h => by
    have := HFF0.out.ext (hx0.trans h)
    unfold rval at this
    rw [HE1.out] at this
    exact this
  have HST := hid hI
  unfold rval
  rw [HE1.out]
  clear hr hd hc hok hs hW hI hR g0 g1 e1 HFF0
  have hwr : IntKind.i64.wrap (f.mi + 1) = f.mi + 1 := IntWalk.i64_in _ ⟨by omega, by omega⟩
  go_enter Tryz.func51, Tryz.ntmps51
  go_upto_region 1 with fail
  try rw [← HE1.out] 
  try rw [hW0]
  try rw [HE1.out]
  clear hW0
  by_cases hln : l.length = f.mi.toNat + 1
  case neg =>
    have HV : Hid (VV = false) := by unfold Hid; rw [← HFR.out]; unfold fitsR; rw [decide_eq_false hln]; rfl
    have HLB : Hid (¬ (l.length : Int) = f.mi + 1) := by unfold Hid; omega
    have XX : Ext W0 W0 := Ext.refl _
    clear hln
    go_wp2
    refine wp_region_shut Ext (fun w' => Ext W0 w') (fun
      | _ => none) (by kernel_rfl) (by kernel_rfl) (fun _ _ h k => h.trans k) ?hTa (Ext.drew (Ext.refl W0)) ?_
    case hTa =>
      intro i R hR
      cases hR
    refine wM_val ?ua0 rfl rfl Ext.refl (fun w' hD => ?ha0) (fun pha0 => ?na0)
    case ha0 =>
      obtain ⟨q0, q1, q2, q3, q4, q5⟩ := FX.out w' hD.1
      obtain ⟨g0, g1⟩ := FC.out w' hD.1
      go_simp; rfl
    simp only [Act.put, List.setIfInBounds_toArray, List.set_cons_succ, List.set_cons_zero, Nat.reduceAdd]
    refine wM_val ?ua1 rfl rfl Ext.refl (fun w' hD => ?ha1) (fun pha1 => ?na1)
    case ha1 =>
      obtain ⟨q0, q1, q2, q3, q4, q5⟩ := FX.out w' hD.1
      obtain ⟨g0, g1⟩ := FC.out w' hD.1
      go_simp; rfl
    simp only [Act.put, List.setIfInBounds_toArray, List.set_cons_succ, List.set_cons_zero, Nat.reduceAdd]
    refine wM_val ?ua2 rfl rfl Ext.refl (fun w' hD => ?ha2) (fun pha2 => ?na2)
    case ha2 =>
      obtain ⟨q0, q1, q2, q3, q4, q5⟩ := FX.out w' hD.1
      obtain ⟨g0, g1⟩ := FC.out w' hD.1
      go_simp; rfl
    simp only [Act.put, List.setIfInBounds_toArray, List.set_cons_succ, List.set_cons_zero, Nat.reduceAdd]
    refine wM_val ?ua3 rfl rfl Ext.refl (fun w' hD => ?ha3) (fun pha3 => ?na3)
    case ha3 =>
      obtain ⟨q0, q1, q2, q3, q4, q5⟩ := FX.out w' hD.1
      obtain ⟨g0, g1⟩ := FC.out w' hD.1
      go_simp; rfl
    simp only [Act.put, List.setIfInBounds_toArray, List.set_cons_succ, List.set_cons_zero, Nat.reduceAdd]
    refine wM_val ?ua4 rfl rfl Ext.refl (fun w' hD => ?ha4) (fun pha4 => ?na4)
    case ha4 =>
      obtain ⟨q0, q1, q2, q3, q4, q5⟩ := FX.out w' hD.1
      obtain ⟨g0, g1⟩ := FC.out w' hD.1
      go_simp; rfl
    simp only [Act.put, List.setIfInBounds_toArray, List.set_cons_succ, List.set_cons_zero, Nat.reduceAdd]
    refine wM_val ?ua5 rfl rfl Ext.refl (fun w' hD => ?ha5) (fun pha5 => ?na5)
    case ha5 =>
      obtain ⟨q0, q1, q2, q3, q4, q5⟩ := FX.out w' hD.1
      obtain ⟨g0, g1⟩ := FC.out w' hD.1
      go_simp; rfl
    simp only [Act.put, List.setIfInBounds_toArray, List.set_cons_succ, List.set_cons_zero, Nat.reduceAdd]
    refine wM_val (.bool true) rfl rfl Ext.refl (fun w' hD => ?ha6) (fun pha6 => ?na6)
    case ha6 => go_simp; first | done | rfl | exact HLB.out | (have := HLB.out; simpa using this)
    simp only [Act.put, List.setIfInBounds_toArray, List.set_cons_succ, List.set_cons_zero, Nat.reduceAdd]
    refine wM_val ?ua7 rfl rfl Ext.refl (fun w' hD => ?ha7) (fun pha7 => ?na7)
    case ha7 =>
      obtain ⟨q0, q1, q2, q3, q4, q5⟩ := FX.out w' hD.1
      obtain ⟨g0, g1⟩ := FC.out w' hD.1
      go_simp; rfl
    simp only [Act.put, List.setIfInBounds_toArray, List.set_cons_succ, List.set_cons_zero, Nat.reduceAdd]
    refine wM_skip rfl ?_
    simp only [Act.put, List.setIfInBounds_toArray, List.set_cons_succ, List.set_cons_zero, Nat.reduceAdd]
    refine wM_skip rfl ?_
    simp only [Act.put, List.setIfInBounds_toArray, List.set_cons_succ, List.set_cons_zero, Nat.reduceAdd]
    refine wM_skip rfl ?_
    simp only [Act.put, List.setIfInBounds_toArray, List.set_cons_succ, List.set_cons_zero, Nat.reduceAdd]
    refine wM_skip rfl ?_
    simp only [Act.put, List.setIfInBounds_toArray, List.set_cons_succ, List.set_cons_zero, Nat.reduceAdd]
    refine wM_skip rfl ?_
    simp only [Act.put, List.setIfInBounds_toArray, List.set_cons_succ, List.set_cons_zero, Nat.reduceAdd]
    refine wM_skip rfl ?_
    simp only [Act.put, List.setIfInBounds_toArray, List.set_cons_succ, List.set_cons_zero, Nat.reduceAdd]
    refine wM_skip rfl ?_
    simp only [Act.put, List.setIfInBounds_toArray, List.set_cons_succ, List.set_cons_zero, Nat.reduceAdd]
    refine wM_skip rfl ?_
    simp only [Act.put, List.setIfInBounds_toArray, List.set_cons_succ, List.set_cons_zero, Nat.reduceAdd]
    refine wM_skip rfl ?_
    simp only [Act.put, List.setIfInBounds_toArray, List.set_cons_succ, List.set_cons_zero, Nat.reduceAdd]
    refine wM_skip rfl ?_
    simp only [Act.put, List.setIfInBounds_toArray, List.set_cons_succ, List.set_cons_zero, Nat.reduceAdd]
    refine wM_skip rfl ?_
    simp only [Act.put, List.setIfInBounds_toArray, List.set_cons_succ, List.set_cons_zero, Nat.reduceAdd]
    refine wM_val ?ua19 rfl rfl Ext.refl (fun w' hD => ?ha19) (fun pha19 => ?na19)
    case ha19 =>
      obtain ⟨q0, q1, q2, q3, q4, q5⟩ := FX.out w' hD.1
      obtain ⟨g0, g1⟩ := FC.out w' hD.1
      go_simp; rfl
    simp only [Act.put, List.setIfInBounds_toArray, List.set_cons_succ, List.set_cons_zero, Nat.reduceAdd]
    refine wM_nil ?_
    intro w9 hw9 hF9
    clear hF9
    go_wp2
    go_ret
    exact ⟨by rw [HV.out]; rfl, hx0.trans hw9⟩
  have HLB : Hid ((l.length : Int) = f.mi + 1) := by unfold Hid; omega
  have HLN := hid hln
  obtain ⟨Mi, hMi⟩ : ∃ Mi : Nat, f.mi.toNat = Mi := ⟨_, rfl⟩
  have HMI := hid hMi
  have HLM : Hid (l.length = Mi + 1) := by unfold Hid; omega
  have hl0 : 0 < l.length := by omega
  have hl0' : (0 : Int) < (l.length : Int) := by omega
  have hl9 : l.length ≤ 9 := by omega
  clear hln hMi
  obtain ⟨wb, wo, rfl, hwc⟩ : ∃ wb wo, AW = some ⟨wb, wo, none⟩ ∧ ∀ j x, l[j]? = some x → w.cell? ⟨wb, wo + j, none⟩ = some (.int .i64 x) := by
    rcases HWI.out with h | ⟨b, off, h, hc⟩
    · rw [List.map_eq_nil_iff] at h
      rw [h] at hl0; simp at hl0
    · exact ⟨b, off, h, fun j x hj => hc j _ (by rw [List.getElem?_map, hj]; rfl)⟩
  have HWC : Hid (∀ w', Ext W0 w' → ∀ j x, l[j]? = some x → w'.cell? ⟨wb, wo + j, none⟩ = some (.int .i64 x)) := fun w' h j x hj => (hx0.trans h).cell (hwc j x hj)
  clear hwc HWI
  obtain ⟨z, hz⟩ := get_of_lt l 0 hl0
  have hgz : l.getD 0 0 = z := by rw [List.getD_eq_getElem?_getD, hz]; rfl
  obtain ⟨B3, hB3⟩ : ∃ B3, memI z c.st = B3 := ⟨_, rfl⟩
  have HB3 : Hid (memI (l.getD 0 0) c.st = B3) := by unfold Hid; rw [hgz]; exact hB3
  have KB : Hid (∀ w', Ext W0 w' → Calls Tryz.prog 133 #[.slice A5 c.st.length k5, .int .i64 z] w' fun e w2 => e = .returned (.bool B3) ∧ Ext w' w2) := fun w' h => by
    have K := refhas_any A5 k5 c.st z w' (HST.out.ext h) (by have := (HS.out.each c hcm).1; omega)
    rw [hB3] at K
    exact K.mono fun e w2 h2 => ⟨h2.1, by rw [h2.2]; exact Ext.refl _⟩
  have FZ : Hid (∀ w', Ext W0 w' → w'.cell? ⟨wb, wo, none⟩ = some (.int .i64 z)) := fun w' h => by have := HWC.out w' h 0 z hz; rwa [Nat.add_zero] at this
  clear hB3 hgz hz
  go_wp2
  refine wp_region_shut Ext (fun w' => Ext W0 w') (fun
    | 17 => some (fun v _ => v = .bool B3)
    | _ => none) (by kernel_rfl) (by kernel_rfl) (fun _ _ h k => h.trans k) ?hTb (Ext.drew (Ext.refl W0)) ?_
  case hTb =>
    intro i R hR
    match i, hR with
    | 17, hR => cases hR; exact fun _ _ _ h _ => h
  refine wM_val ?ub0 rfl rfl Ext.refl (fun w' hD => ?hb0) (fun phb0 => ?nb0)
  case hb0 =>
    obtain ⟨q0, q1, q2, q3, q4, q5⟩ := FX.out w' hD.1
    obtain ⟨g0, g1⟩ := FC.out w' hD.1
    have gz := FZ.out w' hD.1
    go_simp; rfl
  simp only [Act.put, List.setIfInBounds_toArray, List.set_cons_succ, List.set_cons_zero, Nat.reduceAdd]
  refine wM_val ?ub1 rfl rfl Ext.refl (fun w' hD => ?hb1) (fun phb1 => ?nb1)
  case hb1 =>
    obtain ⟨q0, q1, q2, q3, q4, q5⟩ := FX.out w' hD.1
    obtain ⟨g0, g1⟩ := FC.out w' hD.1
    have gz := FZ.out w' hD.1
    go_simp; rfl
  simp only [Act.put, List.setIfInBounds_toArray, List.set_cons_succ, List.set_cons_zero, Nat.reduceAdd]
  refine wM_val ?ub2 rfl rfl Ext.refl (fun w' hD => ?hb2) (fun phb2 => ?nb2)
  case hb2 =>
    obtain ⟨q0, q1, q2, q3, q4, q5⟩ := FX.out w' hD.1
    obtain ⟨g0, g1⟩ := FC.out w' hD.1
    have gz := FZ.out w' hD.1
    go_simp; rfl
  simp only [Act.put, List.setIfInBounds_toArray, List.set_cons_succ, List.set_cons_zero, Nat.reduceAdd]
  refine wM_val ?ub3 rfl rfl Ext.refl (fun w' hD => ?hb3) (fun phb3 => ?nb3)
  case hb3 =>
    obtain ⟨q0, q1, q2, q3, q4, q5⟩ := FX.out w' hD.1
    obtain ⟨g0, g1⟩ := FC.out w' hD.1
    have gz := FZ.out w' hD.1
    go_simp; rfl
  simp only [Act.put, List.setIfInBounds_toArray, List.set_cons_succ, List.set_cons_zero, Nat.reduceAdd]
  refine wM_val ?ub4 rfl rfl Ext.refl (fun w' hD => ?hb4) (fun phb4 => ?nb4)
  case hb4 =>
    obtain ⟨q0, q1, q2, q3, q4, q5⟩ := FX.out w' hD.1
    obtain ⟨g0, g1⟩ := FC.out w' hD.1
    have gz := FZ.out w' hD.1
    go_simp; rfl
  simp only [Act.put, List.setIfInBounds_toArray, List.set_cons_succ, List.set_cons_zero, Nat.reduceAdd]
  refine wM_val ?ub5 rfl rfl Ext.refl (fun w' hD => ?hb5) (fun phb5 => ?nb5)
  case hb5 =>
    obtain ⟨q0, q1, q2, q3, q4, q5⟩ := FX.out w' hD.1
    obtain ⟨g0, g1⟩ := FC.out w' hD.1
    have gz := FZ.out w' hD.1
    go_simp; rfl
  simp only [Act.put, List.setIfInBounds_toArray, List.set_cons_succ, List.set_cons_zero, Nat.reduceAdd]
  refine wM_val (.bool false) rfl rfl Ext.refl (fun w' hD => ?hb6) (fun phb6 => ?nb6)
  case hb6 => go_simp; first | done | rfl | exact HLB.out | (have := HLB.out; simpa using this)
  simp only [Act.put, List.setIfInBounds_toArray, List.set_cons_succ, List.set_cons_zero, Nat.reduceAdd]
  refine wM_val ?ub7 rfl rfl Ext.refl (fun w' hD => ?hb7) (fun phb7 => ?nb7)
  case hb7 =>
    obtain ⟨q0, q1, q2, q3, q4, q5⟩ := FX.out w' hD.1
    obtain ⟨g0, g1⟩ := FC.out w' hD.1
    have gz := FZ.out w' hD.1
    go_simp; rfl
  simp only [Act.put, List.setIfInBounds_toArray, List.set_cons_succ, List.set_cons_zero, Nat.reduceAdd]
  refine wM_val ?ub8 rfl rfl Ext.refl (fun w' hD => ?hb8) (fun phb8 => ?nb8)
  case hb8 =>
    obtain ⟨q0, q1, q2, q3, q4, q5⟩ := FX.out w' hD.1
    obtain ⟨g0, g1⟩ := FC.out w' hD.1
    have gz := FZ.out w' hD.1
    go_simp; rfl
  simp only [Act.put, List.setIfInBounds_toArray, List.set_cons_succ, List.set_cons_zero, Nat.reduceAdd]
  refine wM_val ?ub9 rfl rfl Ext.refl (fun w' hD => ?hb9) (fun phb9 => ?nb9)
  case hb9 =>
    obtain ⟨q0, q1, q2, q3, q4, q5⟩ := FX.out w' hD.1
    obtain ⟨g0, g1⟩ := FC.out w' hD.1
    have gz := FZ.out w' hD.1
    go_simp; rfl
  simp only [Act.put, List.setIfInBounds_toArray, List.set_cons_succ, List.set_cons_zero, Nat.reduceAdd]
  refine wM_val ?ub10 rfl rfl Ext.refl (fun w' hD => ?hb10) (fun phb10 => ?nb10)
  case hb10 =>
    obtain ⟨q0, q1, q2, q3, q4, q5⟩ := FX.out w' hD.1
    obtain ⟨g0, g1⟩ := FC.out w' hD.1
    have gz := FZ.out w' hD.1
    go_simp; rfl
  simp only [Act.put, List.setIfInBounds_toArray, List.set_cons_succ, List.set_cons_zero, Nat.reduceAdd]
  refine wM_val ?ub11 rfl rfl Ext.refl (fun w' hD => ?hb11) (fun phb11 => ?nb11)
  case hb11 =>
    obtain ⟨q0, q1, q2, q3, q4, q5⟩ := FX.out w' hD.1
    obtain ⟨g0, g1⟩ := FC.out w' hD.1
    have gz := FZ.out w' hD.1
    go_simp; rfl
  simp only [Act.put, List.setIfInBounds_toArray, List.set_cons_succ, List.set_cons_zero, Nat.reduceAdd]
  refine wM_val ?ub12 rfl rfl Ext.refl (fun w' hD => ?hb12) (fun phb12 => ?nb12)
  case hb12 =>
    obtain ⟨q0, q1, q2, q3, q4, q5⟩ := FX.out w' hD.1
    obtain ⟨g0, g1⟩ := FC.out w' hD.1
    have gz := FZ.out w' hD.1
    go_simp; rfl
  simp only [Act.put, List.setIfInBounds_toArray, List.set_cons_succ, List.set_cons_zero, Nat.reduceAdd]
  refine wM_val ?ub13 rfl rfl Ext.refl (fun w' hD => ?hb13) (fun phb13 => ?nb13)
  case hb13 =>
    obtain ⟨q0, q1, q2, q3, q4, q5⟩ := FX.out w' hD.1
    obtain ⟨g0, g1⟩ := FC.out w' hD.1
    have gz := FZ.out w' hD.1
    go_simp; rfl
  simp only [Act.put, List.setIfInBounds_toArray, List.set_cons_succ, List.set_cons_zero, Nat.reduceAdd]
  refine wM_val ?ub14 rfl rfl Ext.refl (fun w' hD => ?hb14) (fun phb14 => ?nb14)
  case hb14 =>
    obtain ⟨q0, q1, q2, q3, q4, q5⟩ := FX.out w' hD.1
    obtain ⟨g0, g1⟩ := FC.out w' hD.1
    have gz := FZ.out w' hD.1
    go_simp; rfl
  simp only [Act.put, List.setIfInBounds_toArray, List.set_cons_succ, List.set_cons_zero, Nat.reduceAdd]
  refine wM_val ?ub15 rfl rfl Ext.refl (fun w' hD => ?hb15) (fun phb15 => ?nb15)
  case hb15 =>
    obtain ⟨q0, q1, q2, q3, q4, q5⟩ := FX.out w' hD.1
    obtain ⟨g0, g1⟩ := FC.out w' hD.1
    have gz := FZ.out w' hD.1
    go_simp; rfl
  simp only [Act.put, List.setIfInBounds_toArray, List.set_cons_succ, List.set_cons_zero, Nat.reduceAdd]
  refine wM_val ?ub16 rfl rfl Ext.refl (fun w' hD => ?hb16) (fun phb16 => ?nb16)
  case hb16 =>
    obtain ⟨q0, q1, q2, q3, q4, q5⟩ := FX.out w' hD.1
    obtain ⟨g0, g1⟩ := FC.out w' hD.1
    have gz := FZ.out w' hD.1
    go_simp; rfl
  simp only [Act.put, List.setIfInBounds_toArray, List.set_cons_succ, List.set_cons_zero, Nat.reduceAdd]
  refine wM_op _ rfl rfl (opens_call ?fb17 ?gb17 (fun w' hD => ?hb17) (fun w' hD => ?cb17)) (fun v17 hv17 => ?nb17)
  case hb17 => go_simp; constructor <;> rfl
  case cb17 =>
    refine (KB.out w' hD.1).mono ?_
    rintro e w2 ⟨rfl, hb⟩
    exact ⟨_, rfl, hb, rfl⟩
  obtain ⟨_, -, -, rfl⟩ := hv17
  simp only [Act.put, List.setIfInBounds_toArray, List.set_cons_succ, List.set_cons_zero, Nat.reduceAdd]
  refine wM_val ?ub18 rfl rfl Ext.refl (fun w' hD => ?hb18) (fun phb18 => ?nb18)
  case hb18 =>
    obtain ⟨q0, q1, q2, q3, q4, q5⟩ := FX.out w' hD.1
    obtain ⟨g0, g1⟩ := FC.out w' hD.1
    have gz := FZ.out w' hD.1
    go_simp; rfl
  simp only [Act.put, List.setIfInBounds_toArray, List.set_cons_succ, List.set_cons_zero, Nat.reduceAdd]
  refine wM_val ?ub19 rfl rfl Ext.refl (fun w' hD => ?hb19) (fun phb19 => ?nb19)
  case hb19 =>
    obtain ⟨q0, q1, q2, q3, q4, q5⟩ := FX.out w' hD.1
    obtain ⟨g0, g1⟩ := FC.out w' hD.1
    have gz := FZ.out w' hD.1
    go_simp; rfl
  simp only [Act.put, List.setIfInBounds_toArray, List.set_cons_succ, List.set_cons_zero, Nat.reduceAdd]
  refine wM_nil ?_
  intro w9 hw9 hF9
  clear hF9
  cases B3
  case false =>
    have HV : Hid (VV = false) := by unfold Hid; rw [← HFR.out]; unfold fitsR; rw [HB3.out]; simp
    go_wp2
    go_ret
    exact ⟨by rw [HV.out]; rfl, hx0.trans hw9⟩
  try simp only [Bool.not_true]
  obtain ⟨W9, hW9⟩ : ∃ W9, W9 = w9 := ⟨_, rfl⟩
  subst hW9
  clear FZ KB
  go_wp2_with fail
  go_loopw [7, 6] (fun i7 i6 wr => ∃ (j : Nat), j ≤ l.length ∧ i7 = .int .i64 (j : Int) ∧ i6 = .bool false ∧ Hid ((List.range j).all (fitAt (farM f) f c l) = true) ∧ Ext W0 wr) (fun i _ _ => l.length - (intOf i).toNat)
  case atStart => exact ⟨0, Nat.zero_le _, rfl, rfl, rfl, hw9⟩
  case round =>
    clear hw9
    obtain ⟨j, hj, rfl, rfl, HJ, hx⟩ := hrel
    by_cases hlt : j < l.length
    · have hlt' : (j : Int) < (l.length : Int) := by omega
      obtain ⟨x, hxj⟩ := get_of_lt l j hlt
      have HGX : Hid (l.getD j 0 = x) := by unfold Hid; rw [List.getD_eq_getElem?_getD, hxj]; rfl
      have FM : Hid (∀ w', Ext wr w' → w'.cell? ⟨wb, wo + j, none⟩ = some (.int .i64 x)) := fun w' h => HWC.out w' (hx.trans h) j x hxj
      have hwp : IntKind.i64.wrap (f.pl - 1) = f.pl - 1 := IntWalk.i64_in _ ⟨by omega, by omega⟩
      obtain ⟨PO, hPO⟩ : ∃ PO, inB x 0 (f.pl - 1) = PO := ⟨_, rfl⟩
      have HPO : Hid (plOK f x = PO) := hPO
      have KO : Hid (∀ w', Calls Tryz.prog 86 #[.int .i64 x, .int .i64 0, .int .i64 (f.pl - 1)] w' fun e w2 => e = .returned (.bool (!PO)) ∧ Ext w' w2) := fun w' => by
        have K := off_any x 0 (f.pl - 1) w'
        rw [hPO] at K
        exact K.mono fun e w2 h2 => ⟨h2.1, by rw [h2.2]; exact Ext.refl _⟩
      clear hPO
      have XX : Ext W0 wr := hx
      have FIN : Hid (∀ b, fitAt (farM f) f c l j = b → b = false → VV = false) := fun b h1 h2 => by
        rw [← HFR.out]
        unfold fitsR
        rw [fitAt_no hlt (h1.trans h2)]; simp
      cases PO
      case false =>
        have HV : Hid (VV = false) := FIN.out _ rfl (by unfold fitAt; rw [HGX.out, HPO.out]; rfl)
        try simp only [Bool.not_false] at KO
        go_wp2
        refine wp_region_shut Ext (fun w' => Ext wr w') (fun
          | 8 => some (fun v _ => v = .bool true)
          | _ => none) (by kernel_rfl) (by kernel_rfl) (fun _ _ h k => h.trans k) ?hTc (Ext.drew (Ext.refl wr)) ?_
        case hTc =>
          intro i R hR
          match i, hR with
          | 8, hR => cases hR; exact fun _ _ _ h _ => h
        refine wM_val ?uc0 rfl rfl Ext.refl (fun w' hD => ?hc0) (fun phc0 => ?nc0)
        case hc0 =>
          obtain ⟨q0, q1, q2, q3, q4, q5⟩ := FX.out w' (hx.trans hD.1)
          have gm := FM.out w' hD.1
          go_simp; rfl
        simp only [Act.put, List.setIfInBounds_toArray, List.set_cons_succ, List.set_cons_zero, Nat.reduceAdd]
        refine wM_val ?uc1 rfl rfl Ext.refl (fun w' hD => ?hc1) (fun phc1 => ?nc1)
        case hc1 =>
          obtain ⟨q0, q1, q2, q3, q4, q5⟩ := FX.out w' (hx.trans hD.1)
          have gm := FM.out w' hD.1
          go_simp; rfl
        simp only [Act.put, List.setIfInBounds_toArray, List.set_cons_succ, List.set_cons_zero, Nat.reduceAdd]
        refine wM_val ?uc2 rfl rfl Ext.refl (fun w' hD => ?hc2) (fun phc2 => ?nc2)
        case hc2 =>
          obtain ⟨q0, q1, q2, q3, q4, q5⟩ := FX.out w' (hx.trans hD.1)
          have gm := FM.out w' hD.1
          go_simp; rfl
        simp only [Act.put, List.setIfInBounds_toArray, List.set_cons_succ, List.set_cons_zero, Nat.reduceAdd]
        refine wM_val ?uc3 rfl rfl Ext.refl (fun w' hD => ?hc3) (fun phc3 => ?nc3)
        case hc3 =>
          obtain ⟨q0, q1, q2, q3, q4, q5⟩ := FX.out w' (hx.trans hD.1)
          have gm := FM.out w' hD.1
          go_simp; rfl
        simp only [Act.put, List.setIfInBounds_toArray, List.set_cons_succ, List.set_cons_zero, Nat.reduceAdd]
        refine wM_val ?uc4 rfl rfl Ext.refl (fun w' hD => ?hc4) (fun phc4 => ?nc4)
        case hc4 =>
          obtain ⟨q0, q1, q2, q3, q4, q5⟩ := FX.out w' (hx.trans hD.1)
          have gm := FM.out w' hD.1
          go_simp; rfl
        simp only [Act.put, List.setIfInBounds_toArray, List.set_cons_succ, List.set_cons_zero, Nat.reduceAdd]
        refine wM_val ?uc5 rfl rfl Ext.refl (fun w' hD => ?hc5) (fun phc5 => ?nc5)
        case hc5 =>
          obtain ⟨q0, q1, q2, q3, q4, q5⟩ := FX.out w' (hx.trans hD.1)
          have gm := FM.out w' hD.1
          go_simp; rfl
        simp only [Act.put, List.setIfInBounds_toArray, List.set_cons_succ, List.set_cons_zero, Nat.reduceAdd]
        refine wM_val ?uc6 rfl rfl Ext.refl (fun w' hD => ?hc6) (fun phc6 => ?nc6)
        case hc6 =>
          obtain ⟨q0, q1, q2, q3, q4, q5⟩ := FX.out w' (hx.trans hD.1)
          have gm := FM.out w' hD.1
          go_simp; rfl
        simp only [Act.put, List.setIfInBounds_toArray, List.set_cons_succ, List.set_cons_zero, Nat.reduceAdd]
        refine wM_val ?uc7 rfl rfl Ext.refl (fun w' hD => ?hc7) (fun phc7 => ?nc7)
        case hc7 =>
          obtain ⟨q0, q1, q2, q3, q4, q5⟩ := FX.out w' (hx.trans hD.1)
          have gm := FM.out w' hD.1
          go_simp; rfl
        simp only [Act.put, List.setIfInBounds_toArray, List.set_cons_succ, List.set_cons_zero, Nat.reduceAdd]
        refine wM_op _ rfl rfl (opens_call ?fc8 ?gc8 (fun w' hD => ?hc8) (fun w' hD => ?cc8)) (fun v8 hv8 => ?nc8)
        case hc8 => go_simp; constructor <;> rfl
        case cc8 =>
          refine (KO.out w').mono ?_
          rintro e w2 ⟨rfl, hb⟩
          exact ⟨_, rfl, hb, rfl⟩
        obtain ⟨_, -, -, rfl⟩ := hv8
        simp only [Act.put, List.setIfInBounds_toArray, List.set_cons_succ, List.set_cons_zero, Nat.reduceAdd]
        refine wM_val ?uc9 rfl rfl Ext.refl (fun w' hD => ?hc9) (fun phc9 => ?nc9)
        case hc9 =>
          obtain ⟨q0, q1, q2, q3, q4, q5⟩ := FX.out w' (hx.trans hD.1)
          have gm := FM.out w' hD.1
          go_simp; rfl
        simp only [Act.put, List.setIfInBounds_toArray, List.set_cons_succ, List.set_cons_zero, Nat.reduceAdd]
        refine wM_skip rfl ?_
        simp only [Act.put, List.setIfInBounds_toArray, List.set_cons_succ, List.set_cons_zero, Nat.reduceAdd]
        refine wM_skip rfl ?_
        simp only [Act.put, List.setIfInBounds_toArray, List.set_cons_succ, List.set_cons_zero, Nat.reduceAdd]
        refine wM_skip rfl ?_
        simp only [Act.put, List.setIfInBounds_toArray, List.set_cons_succ, List.set_cons_zero, Nat.reduceAdd]
        refine wM_skip rfl ?_
        simp only [Act.put, List.setIfInBounds_toArray, List.set_cons_succ, List.set_cons_zero, Nat.reduceAdd]
        refine wM_skip rfl ?_
        simp only [Act.put, List.setIfInBounds_toArray, List.set_cons_succ, List.set_cons_zero, Nat.reduceAdd]
        refine wM_skip rfl ?_
        simp only [Act.put, List.setIfInBounds_toArray, List.set_cons_succ, List.set_cons_zero, Nat.reduceAdd]
        refine wM_skip rfl ?_
        simp only [Act.put, List.setIfInBounds_toArray, List.set_cons_succ, List.set_cons_zero, Nat.reduceAdd]
        refine wM_skip rfl ?_
        simp only [Act.put, List.setIfInBounds_toArray, List.set_cons_succ, List.set_cons_zero, Nat.reduceAdd]
        refine wM_skip rfl ?_
        simp only [Act.put, List.setIfInBounds_toArray, List.set_cons_succ, List.set_cons_zero, Nat.reduceAdd]
        refine wM_skip rfl ?_
        simp only [Act.put, List.setIfInBounds_toArray, List.set_cons_succ, List.set_cons_zero, Nat.reduceAdd]
        refine wM_skip rfl ?_
        simp only [Act.put, List.setIfInBounds_toArray, List.set_cons_succ, List.set_cons_zero, Nat.reduceAdd]
        refine wM_skip rfl ?_
        simp only [Act.put, List.setIfInBounds_toArray, List.set_cons_succ, List.set_cons_zero, Nat.reduceAdd]
        refine wM_skip rfl ?_
        simp only [Act.put, List.setIfInBounds_toArray, List.set_cons_succ, List.set_cons_zero, Nat.reduceAdd]
        refine wM_skip rfl ?_
        simp only [Act.put, List.setIfInBounds_toArray, List.set_cons_succ, List.set_cons_zero, Nat.reduceAdd]
        refine wM_skip rfl ?_
        simp only [Act.put, List.setIfInBounds_toArray, List.set_cons_succ, List.set_cons_zero, Nat.reduceAdd]
        refine wM_skip rfl ?_
        simp only [Act.put, List.setIfInBounds_toArray, List.set_cons_succ, List.set_cons_zero, Nat.reduceAdd]
        refine wM_val ?uc26 rfl rfl Ext.refl (fun w' hD => ?hc26) (fun phc26 => ?nc26)
        case hc26 =>
          obtain ⟨q0, q1, q2, q3, q4, q5⟩ := FX.out w' (hx.trans hD.1)
          have gm := FM.out w' hD.1
          go_simp; rfl
        simp only [Act.put, List.setIfInBounds_toArray, List.set_cons_succ, List.set_cons_zero, Nat.reduceAdd]
        refine wM_val ?uc27 rfl rfl Ext.refl (fun w' hD => ?hc27) (fun phc27 => ?nc27)
        case hc27 =>
          obtain ⟨q0, q1, q2, q3, q4, q5⟩ := FX.out w' (hx.trans hD.1)
          have gm := FM.out w' hD.1
          go_simp; rfl
        simp only [Act.put, List.setIfInBounds_toArray, List.set_cons_succ, List.set_cons_zero, Nat.reduceAdd]
        refine wM_skip rfl ?_
        simp only [Act.put, List.setIfInBounds_toArray, List.set_cons_succ, List.set_cons_zero, Nat.reduceAdd]
        refine wM_skip rfl ?_
        simp only [Act.put, List.setIfInBounds_toArray, List.set_cons_succ, List.set_cons_zero, Nat.reduceAdd]
        refine wM_skip rfl ?_
        simp only [Act.put, List.setIfInBounds_toArray, List.set_cons_succ, List.set_cons_zero, Nat.reduceAdd]
        refine wM_skip rfl ?_
        simp only [Act.put, List.setIfInBounds_toArray, List.set_cons_succ, List.set_cons_zero, Nat.reduceAdd]
        refine wM_skip rfl ?_
        simp only [Act.put, List.setIfInBounds_toArray, List.set_cons_succ, List.set_cons_zero, Nat.reduceAdd]
        refine wM_skip rfl ?_
        simp only [Act.put, List.setIfInBounds_toArray, List.set_cons_succ, List.set_cons_zero, Nat.reduceAdd]
        refine wM_skip rfl ?_
        simp only [Act.put, List.setIfInBounds_toArray, List.set_cons_succ, List.set_cons_zero, Nat.reduceAdd]
        refine wM_skip rfl ?_
        simp only [Act.put, List.setIfInBounds_toArray, List.set_cons_succ, List.set_cons_zero, Nat.reduceAdd]
        refine wM_skip rfl ?_
        simp only [Act.put, List.setIfInBounds_toArray, List.set_cons_succ, List.set_cons_zero, Nat.reduceAdd]
        refine wM_skip rfl ?_
        simp only [Act.put, List.setIfInBounds_toArray, List.set_cons_succ, List.set_cons_zero, Nat.reduceAdd]
        refine wM_skip rfl ?_
        simp only [Act.put, List.setIfInBounds_toArray, List.set_cons_succ, List.set_cons_zero, Nat.reduceAdd]
        refine wM_skip rfl ?_
        simp only [Act.put, List.setIfInBounds_toArray, List.set_cons_succ, List.set_cons_zero, Nat.reduceAdd]
        refine wM_val ?uc40 rfl rfl Ext.refl (fun w' hD => ?hc40) (fun phc40 => ?nc40)
        case hc40 =>
          obtain ⟨q0, q1, q2, q3, q4, q5⟩ := FX.out w' (hx.trans hD.1)
          have gm := FM.out w' hD.1
          go_simp; rfl
        simp only [Act.put, List.setIfInBounds_toArray, List.set_cons_succ, List.set_cons_zero, Nat.reduceAdd]
        refine wM_nil ?_
        intro w9 hw9 hF9
        clear hF9
        go_wp2
        go_ret
        exact ⟨by rw [HV.out]; rfl, (hx0.trans XX).trans hw9⟩
      try simp only [Bool.not_true] at KO
      have hxp := plOK_iff2.1 HPO.out
      obtain ⟨xn, rfl⟩ : ∃ xn : Nat, x = xn := ⟨x.toNat, by omega⟩
      have HWX : Hid (wlAt l j = xn) := by unfold Hid wlAt; rw [HGX.out, Int.toNat_natCast]
      obtain ⟨AG, hAG⟩ : ∃ AG, agC (farM f) f c allF j xn = AG := ⟨_, rfl⟩
      have HAG := hid hAG
      have KG : Hid (∀ w', Ext wr w' → Calls Tryz.prog 150 #[.agg #[.int .i64 f.pl, .int .i64 f.mi, .slice s.a1 f.tr.length s.c1, .slice s.a2 f.bl.length s.c2, .slice (some ⟨b0, o0, none⟩) f.ct.length s.c3, .slice A4 (distL f).length c4], .int .i64 (k : Int), .int .i64 (everyN c : Nat), .int .i64 (j : Int), .int .i64 (xn : Int)] w' fun e w2 => e = .returned (.bool AG) ∧ Ext w' w2) := fun w' h => by
        have K := refagrees_any _ f k c (everyN c) j xn w' (HFF.out w' (hx.trans h)) HOK.out HC.out (every_lt h8) (by omega)
        rw [ag_every, hAG] at K
        exact K
      clear hAG
      rcases j with _ | j
      · have hjz : ((0 : Nat) : Int) = 0 := rfl
        go_wp2
        refine wp_region_shut Ext (fun w' => Ext wr w') (fun
          | 8 => some (fun v _ => v = .bool false)
          | 32 => some (fun v _ => v = .int .i64 (everyN c : Nat))
          | 38 => some (fun v _ => v = .bool AG)
          | _ => none) (by kernel_rfl) (by kernel_rfl) (fun _ _ h k => h.trans k) ?hTd (Ext.drew (Ext.refl wr)) ?_
        case hTd =>
          intro i R hR
          match i, hR with
          | 8, hR => cases hR; exact fun _ _ _ h _ => h
          | 32, hR => cases hR; exact fun _ _ _ h _ => h
          | 38, hR => cases hR; exact fun _ _ _ h _ => h
        refine wM_val ?ud0 rfl rfl Ext.refl (fun w' hD => ?hd0) (fun phd0 => ?nd0)
        case hd0 =>
          obtain ⟨q0, q1, q2, q3, q4, q5⟩ := FX.out w' (hx.trans hD.1)
          have gm := FM.out w' hD.1
          rw [Nat.add_zero] at gm
          go_simp; rfl
        simp only [Act.put, List.setIfInBounds_toArray, List.set_cons_succ, List.set_cons_zero, Nat.reduceAdd]
        refine wM_val ?ud1 rfl rfl Ext.refl (fun w' hD => ?hd1) (fun phd1 => ?nd1)
        case hd1 =>
          obtain ⟨q0, q1, q2, q3, q4, q5⟩ := FX.out w' (hx.trans hD.1)
          have gm := FM.out w' hD.1
          rw [Nat.add_zero] at gm
          go_simp; rfl
        simp only [Act.put, List.setIfInBounds_toArray, List.set_cons_succ, List.set_cons_zero, Nat.reduceAdd]
        refine wM_val ?ud2 rfl rfl Ext.refl (fun w' hD => ?hd2) (fun phd2 => ?nd2)
        case hd2 =>
          obtain ⟨q0, q1, q2, q3, q4, q5⟩ := FX.out w' (hx.trans hD.1)
          have gm := FM.out w' hD.1
          rw [Nat.add_zero] at gm
          go_simp; rfl
        simp only [Act.put, List.setIfInBounds_toArray, List.set_cons_succ, List.set_cons_zero, Nat.reduceAdd]
        refine wM_val ?ud3 rfl rfl Ext.refl (fun w' hD => ?hd3) (fun phd3 => ?nd3)
        case hd3 =>
          obtain ⟨q0, q1, q2, q3, q4, q5⟩ := FX.out w' (hx.trans hD.1)
          have gm := FM.out w' hD.1
          rw [Nat.add_zero] at gm
          go_simp; rfl
        simp only [Act.put, List.setIfInBounds_toArray, List.set_cons_succ, List.set_cons_zero, Nat.reduceAdd]
        refine wM_val ?ud4 rfl rfl Ext.refl (fun w' hD => ?hd4) (fun phd4 => ?nd4)
        case hd4 =>
          obtain ⟨q0, q1, q2, q3, q4, q5⟩ := FX.out w' (hx.trans hD.1)
          have gm := FM.out w' hD.1
          rw [Nat.add_zero] at gm
          go_simp; rfl
        simp only [Act.put, List.setIfInBounds_toArray, List.set_cons_succ, List.set_cons_zero, Nat.reduceAdd]
        refine wM_val ?ud5 rfl rfl Ext.refl (fun w' hD => ?hd5) (fun phd5 => ?nd5)
        case hd5 =>
          obtain ⟨q0, q1, q2, q3, q4, q5⟩ := FX.out w' (hx.trans hD.1)
          have gm := FM.out w' hD.1
          rw [Nat.add_zero] at gm
          go_simp; rfl
        simp only [Act.put, List.setIfInBounds_toArray, List.set_cons_succ, List.set_cons_zero, Nat.reduceAdd]
        refine wM_val ?ud6 rfl rfl Ext.refl (fun w' hD => ?hd6) (fun phd6 => ?nd6)
        case hd6 =>
          obtain ⟨q0, q1, q2, q3, q4, q5⟩ := FX.out w' (hx.trans hD.1)
          have gm := FM.out w' hD.1
          rw [Nat.add_zero] at gm
          go_simp; rfl
        simp only [Act.put, List.setIfInBounds_toArray, List.set_cons_succ, List.set_cons_zero, Nat.reduceAdd]
        refine wM_val ?ud7 rfl rfl Ext.refl (fun w' hD => ?hd7) (fun phd7 => ?nd7)
        case hd7 =>
          obtain ⟨q0, q1, q2, q3, q4, q5⟩ := FX.out w' (hx.trans hD.1)
          have gm := FM.out w' hD.1
          rw [Nat.add_zero] at gm
          go_simp; rfl
        simp only [Act.put, List.setIfInBounds_toArray, List.set_cons_succ, List.set_cons_zero, Nat.reduceAdd]
        refine wM_op _ rfl rfl (opens_call ?fd8 ?gd8 (fun w' hD => ?hd8) (fun w' hD => ?cd8)) (fun v8 hv8 => ?nd8)
        case hd8 => go_simp; constructor <;> rfl
        case cd8 =>
          refine (KO.out w').mono ?_
          rintro e w2 ⟨rfl, hb⟩
          exact ⟨_, rfl, hb, rfl⟩
        obtain ⟨_, -, -, rfl⟩ := hv8
        simp only [Act.put, List.setIfInBounds_toArray, List.set_cons_succ, List.set_cons_zero, Nat.reduceAdd]
        refine wM_val ?ud9 rfl rfl Ext.refl (fun w' hD => ?hd9) (fun phd9 => ?nd9)
        case hd9 =>
          obtain ⟨q0, q1, q2, q3, q4, q5⟩ := FX.out w' (hx.trans hD.1)
          have gm := FM.out w' hD.1
          rw [Nat.add_zero] at gm
          go_simp; rfl
        simp only [Act.put, List.setIfInBounds_toArray, List.set_cons_succ, List.set_cons_zero, Nat.reduceAdd]
        refine wM_val ?ud10 rfl rfl Ext.refl (fun w' hD => ?hd10) (fun phd10 => ?nd10)
        case hd10 =>
          obtain ⟨q0, q1, q2, q3, q4, q5⟩ := FX.out w' (hx.trans hD.1)
          have gm := FM.out w' hD.1
          rw [Nat.add_zero] at gm
          go_simp; rfl
        simp only [Act.put, List.setIfInBounds_toArray, List.set_cons_succ, List.set_cons_zero, Nat.reduceAdd]
        refine wM_val (.bool false) rfl rfl Ext.refl (fun w' hD => ?hd11) (fun phd11 => ?nd11)
        case hd11 => go_simp; first | done | rfl | omega | (simp; omega)
        simp only [Act.put, List.setIfInBounds_toArray, List.set_cons_succ, List.set_cons_zero, Nat.reduceAdd]
        refine wM_val ?ud12 rfl rfl Ext.refl (fun w' hD => ?hd12) (fun phd12 => ?nd12)
        case hd12 =>
          obtain ⟨q0, q1, q2, q3, q4, q5⟩ := FX.out w' (hx.trans hD.1)
          have gm := FM.out w' hD.1
          rw [Nat.add_zero] at gm
          go_simp; rfl
        simp only [Act.put, List.setIfInBounds_toArray, List.set_cons_succ, List.set_cons_zero, Nat.reduceAdd]
        refine wM_skip rfl ?_
        simp only [Act.put, List.setIfInBounds_toArray, List.set_cons_succ, List.set_cons_zero, Nat.reduceAdd]
        refine wM_skip rfl ?_
        simp only [Act.put, List.setIfInBounds_toArray, List.set_cons_succ, List.set_cons_zero, Nat.reduceAdd]
        refine wM_skip rfl ?_
        simp only [Act.put, List.setIfInBounds_toArray, List.set_cons_succ, List.set_cons_zero, Nat.reduceAdd]
        refine wM_skip rfl ?_
        simp only [Act.put, List.setIfInBounds_toArray, List.set_cons_succ, List.set_cons_zero, Nat.reduceAdd]
        refine wM_skip rfl ?_
        simp only [Act.put, List.setIfInBounds_toArray, List.set_cons_succ, List.set_cons_zero, Nat.reduceAdd]
        refine wM_skip rfl ?_
        simp only [Act.put, List.setIfInBounds_toArray, List.set_cons_succ, List.set_cons_zero, Nat.reduceAdd]
        refine wM_skip rfl ?_
        simp only [Act.put, List.setIfInBounds_toArray, List.set_cons_succ, List.set_cons_zero, Nat.reduceAdd]
        refine wM_skip rfl ?_
        simp only [Act.put, List.setIfInBounds_toArray, List.set_cons_succ, List.set_cons_zero, Nat.reduceAdd]
        refine wM_skip rfl ?_
        simp only [Act.put, List.setIfInBounds_toArray, List.set_cons_succ, List.set_cons_zero, Nat.reduceAdd]
        refine wM_skip rfl ?_
        simp only [Act.put, List.setIfInBounds_toArray, List.set_cons_succ, List.set_cons_zero, Nat.reduceAdd]
        refine wM_skip rfl ?_
        simp only [Act.put, List.setIfInBounds_toArray, List.set_cons_succ, List.set_cons_zero, Nat.reduceAdd]
        refine wM_skip rfl ?_
        simp only [Act.put, List.setIfInBounds_toArray, List.set_cons_succ, List.set_cons_zero, Nat.reduceAdd]
        refine wM_val ?ud25 rfl rfl Ext.refl (fun w' hD => ?hd25) (fun phd25 => ?nd25)
        case hd25 =>
          obtain ⟨q0, q1, q2, q3, q4, q5⟩ := FX.out w' (hx.trans hD.1)
          have gm := FM.out w' hD.1
          rw [Nat.add_zero] at gm
          go_simp; rfl
        simp only [Act.put, List.setIfInBounds_toArray, List.set_cons_succ, List.set_cons_zero, Nat.reduceAdd]
        refine wM_val ?ud26 rfl rfl Ext.refl (fun w' hD => ?hd26) (fun phd26 => ?nd26)
        case hd26 =>
          obtain ⟨q0, q1, q2, q3, q4, q5⟩ := FX.out w' (hx.trans hD.1)
          have gm := FM.out w' hD.1
          rw [Nat.add_zero] at gm
          go_simp; rfl
        simp only [Act.put, List.setIfInBounds_toArray, List.set_cons_succ, List.set_cons_zero, Nat.reduceAdd]
        refine wM_val ?ud27 rfl rfl Ext.refl (fun w' hD => ?hd27) (fun phd27 => ?nd27)
        case hd27 =>
          obtain ⟨q0, q1, q2, q3, q4, q5⟩ := FX.out w' (hx.trans hD.1)
          have gm := FM.out w' hD.1
          rw [Nat.add_zero] at gm
          go_simp; rfl
        simp only [Act.put, List.setIfInBounds_toArray, List.set_cons_succ, List.set_cons_zero, Nat.reduceAdd]
        refine wM_val ?ud28 rfl rfl Ext.refl (fun w' hD => ?hd28) (fun phd28 => ?nd28)
        case hd28 =>
          obtain ⟨q0, q1, q2, q3, q4, q5⟩ := FX.out w' (hx.trans hD.1)
          have gm := FM.out w' hD.1
          rw [Nat.add_zero] at gm
          go_simp; rfl
        simp only [Act.put, List.setIfInBounds_toArray, List.set_cons_succ, List.set_cons_zero, Nat.reduceAdd]
        refine wM_val ?ud29 rfl rfl Ext.refl (fun w' hD => ?hd29) (fun phd29 => ?nd29)
        case hd29 =>
          obtain ⟨q0, q1, q2, q3, q4, q5⟩ := FX.out w' (hx.trans hD.1)
          have gm := FM.out w' hD.1
          rw [Nat.add_zero] at gm
          go_simp; rfl
        simp only [Act.put, List.setIfInBounds_toArray, List.set_cons_succ, List.set_cons_zero, Nat.reduceAdd]
        refine wM_val ?ud30 rfl rfl Ext.refl (fun w' hD => ?hd30) (fun phd30 => ?nd30)
        case hd30 =>
          obtain ⟨q0, q1, q2, q3, q4, q5⟩ := FX.out w' (hx.trans hD.1)
          have gm := FM.out w' hD.1
          rw [Nat.add_zero] at gm
          go_simp; rfl
        simp only [Act.put, List.setIfInBounds_toArray, List.set_cons_succ, List.set_cons_zero, Nat.reduceAdd]
        refine wM_val ?ud31 rfl rfl Ext.refl (fun w' hD => ?hd31) (fun phd31 => ?nd31)
        case hd31 =>
          obtain ⟨q0, q1, q2, q3, q4, q5⟩ := FX.out w' (hx.trans hD.1)
          have gm := FM.out w' hD.1
          rw [Nat.add_zero] at gm
          go_simp; rfl
        simp only [Act.put, List.setIfInBounds_toArray, List.set_cons_succ, List.set_cons_zero, Nat.reduceAdd]
        refine wM_op _ rfl rfl (opens_call ?fd32 ?gd32 (fun w' hD => ?hd32) (fun w' hD => ?cd32)) (fun v32 hv32 => ?nd32)
        case hd32 => go_simp; constructor <;> rfl
        case cd32 =>
          refine (refevery_any _ f (distL f) k c w' (HFF.out w' (hx.trans hD.1)) HC.out h8).mono ?_
          rintro e w2 ⟨rfl, hb⟩
          exact ⟨_, rfl, hb, rfl⟩
        obtain ⟨_, -, -, rfl⟩ := hv32
        simp only [Act.put, List.setIfInBounds_toArray, List.set_cons_succ, List.set_cons_zero, Nat.reduceAdd]
        refine wM_val ?ud33 rfl rfl Ext.refl (fun w' hD => ?hd33) (fun phd33 => ?nd33)
        case hd33 =>
          obtain ⟨q0, q1, q2, q3, q4, q5⟩ := FX.out w' (hx.trans hD.1)
          have gm := FM.out w' hD.1
          rw [Nat.add_zero] at gm
          go_simp; rfl
        simp only [Act.put, List.setIfInBounds_toArray, List.set_cons_succ, List.set_cons_zero, Nat.reduceAdd]
        refine wM_val ?ud34 rfl rfl Ext.refl (fun w' hD => ?hd34) (fun phd34 => ?nd34)
        case hd34 =>
          obtain ⟨q0, q1, q2, q3, q4, q5⟩ := FX.out w' (hx.trans hD.1)
          have gm := FM.out w' hD.1
          rw [Nat.add_zero] at gm
          go_simp; rfl
        simp only [Act.put, List.setIfInBounds_toArray, List.set_cons_succ, List.set_cons_zero, Nat.reduceAdd]
        refine wM_val ?ud35 rfl rfl Ext.refl (fun w' hD => ?hd35) (fun phd35 => ?nd35)
        case hd35 =>
          obtain ⟨q0, q1, q2, q3, q4, q5⟩ := FX.out w' (hx.trans hD.1)
          have gm := FM.out w' hD.1
          rw [Nat.add_zero] at gm
          go_simp; rfl
        simp only [Act.put, List.setIfInBounds_toArray, List.set_cons_succ, List.set_cons_zero, Nat.reduceAdd]
        refine wM_val ?ud36 rfl rfl Ext.refl (fun w' hD => ?hd36) (fun phd36 => ?nd36)
        case hd36 =>
          obtain ⟨q0, q1, q2, q3, q4, q5⟩ := FX.out w' (hx.trans hD.1)
          have gm := FM.out w' hD.1
          rw [Nat.add_zero] at gm
          go_simp; rfl
        simp only [Act.put, List.setIfInBounds_toArray, List.set_cons_succ, List.set_cons_zero, Nat.reduceAdd]
        refine wM_val ?ud37 rfl rfl Ext.refl (fun w' hD => ?hd37) (fun phd37 => ?nd37)
        case hd37 =>
          obtain ⟨q0, q1, q2, q3, q4, q5⟩ := FX.out w' (hx.trans hD.1)
          have gm := FM.out w' hD.1
          rw [Nat.add_zero] at gm
          go_simp; rfl
        simp only [Act.put, List.setIfInBounds_toArray, List.set_cons_succ, List.set_cons_zero, Nat.reduceAdd]
        refine wM_op _ rfl rfl (opens_call ?fd38 ?gd38 (fun w' hD => ?hd38) (fun w' hD => ?cd38)) (fun v38 hv38 => ?nd38)
        case hd38 => go_simp; constructor <;> rfl
        case cd38 =>
          refine (KG.out w' hD.1).mono ?_
          rintro e w2 ⟨rfl, hb⟩
          exact ⟨_, rfl, hb, rfl⟩
        obtain ⟨_, -, -, rfl⟩ := hv38
        simp only [Act.put, List.setIfInBounds_toArray, List.set_cons_succ, List.set_cons_zero, Nat.reduceAdd]
        refine wM_val ?ud39 rfl rfl Ext.refl (fun w' hD => ?hd39) (fun phd39 => ?nd39)
        case hd39 =>
          obtain ⟨q0, q1, q2, q3, q4, q5⟩ := FX.out w' (hx.trans hD.1)
          have gm := FM.out w' hD.1
          rw [Nat.add_zero] at gm
          go_simp; rfl
        simp only [Act.put, List.setIfInBounds_toArray, List.set_cons_succ, List.set_cons_zero, Nat.reduceAdd]
        refine wM_val ?ud40 rfl rfl Ext.refl (fun w' hD => ?hd40) (fun phd40 => ?nd40)
        case hd40 =>
          obtain ⟨q0, q1, q2, q3, q4, q5⟩ := FX.out w' (hx.trans hD.1)
          have gm := FM.out w' hD.1
          rw [Nat.add_zero] at gm
          go_simp; rfl
        simp only [Act.put, List.setIfInBounds_toArray, List.set_cons_succ, List.set_cons_zero, Nat.reduceAdd]
        refine wM_nil ?_
        intro w9 hw9 hF9
        clear hF9
        cases AG
        case false =>
          have HV : Hid (VV = false) := FIN.out _ rfl (by unfold fitAt; rw [HGX.out, HPO.out, HWX.out, HAG.out]; rfl)
          go_wp2
          go_ret
          exact ⟨by rw [HV.out]; rfl, (hx0.trans XX).trans hw9⟩
        have HJ9 : Hid ((List.range (0 + 1)).all (fitAt (farM f) f c l) = true) := fitAt_le HJ.out (by unfold fitAt; rw [HGX.out, HPO.out, HWX.out, HAG.out]; rfl)
        try simp only [Bool.not_true]
        go_wp2
        go_roundw
        case rel => exact ⟨0 + 1, by omega, by go_num, rfl, HJ9, hx.trans hw9⟩
        case measure => simp [intOf]; try omega
      · obtain ⟨y, hyj⟩ := get_of_lt l j (by omega)
        have hJ2 : fitAt (farM f) f c l j = true := by
          have h := HJ.out
          rw [List.range_succ, List.all_append] at h
          simp only [Bool.and_eq_true, List.all_cons, List.all_nil, Bool.and_true] at h
          exact h.2
        have hgy : l.getD j 0 = y := by rw [List.getD_eq_getElem?_getD, hyj]; rfl
        have hyp : 0 ≤ y ∧ y < f.pl := by
          unfold fitAt at hJ2
          simp only [Bool.and_eq_true] at hJ2
          have := hJ2.1.1
          rw [hgy] at this
          exact plOK_iff2.1 this
        obtain ⟨yn, rfl⟩ : ∃ yn : Nat, y = yn := ⟨y.toNat, by omega⟩
        have HWY : Hid (wlAt l j = yn) := by unfold Hid wlAt; rw [hgy, Int.toNat_natCast]
        have FP : Hid (∀ w', Ext wr w' → w'.cell? ⟨wb, wo + j, none⟩ = some (.int .i64 (yn : Int))) := fun w' h => HWC.out w' (hx.trans h) j _ hyj
        obtain ⟨NB, hNB⟩ : ∃ NB, decide (farM f yn xn ≤ 1) = NB := ⟨_, rfl⟩
        have HNB := hid hNB
        have KN : Hid (∀ w', Ext wr w' → Calls Tryz.prog 114 #[.agg #[.int .i64 f.pl, .int .i64 f.mi, .slice s.a1 f.tr.length s.c1, .slice s.a2 f.bl.length s.c2, .slice (some ⟨b0, o0, none⟩) f.ct.length s.c3, .slice A4 (distL f).length c4], .int .i64 (yn : Int), .int .i64 (xn : Int)] w' fun e w2 => e = .returned (.bool NB) ∧ Ext w' w2) := fun w' h => by
          have K := refbeside_any _ f (distL f) (yn : Int) (xn : Int) w' (HFF.out w' (hx.trans h)) HS.out
          rw [besideB_far HOK.out (by omega) (by omega), hNB] at K
          exact K
        have hwj : IntKind.i64.wrap ((j : Int) + 1 - 1) = (j : Int) := by rw [show (j : Int) + 1 - 1 = j by omega]; exact IntWalk.i64_in _ ⟨by omega, by omega⟩
        have hwj2 : IntKind.i64.wrap (j : Int) = (j : Int) := IntWalk.i64_in _ ⟨by omega, by omega⟩
        have hwj3 : IntKind.i64.wrap ((j : Int) + 1) = (j : Int) + 1 := IntWalk.i64_in _ ⟨by omega, by omega⟩
        have hj1 : (j : Int) < (l.length : Int) := by omega
        have hj2 : j < l.length := by omega
        have hj3 : (0 : Int) < (j : Int) + 1 := by omega
        clear hNB hgy hyj hJ2
        cases NB
        case false =>
          have HV : Hid (VV = false) := FIN.out _ rfl (by unfold fitAt; rw [HGX.out, HPO.out, Nat.add_sub_cancel, HWX.out, HWY.out, HNB.out]; simp)
          go_wp2
          refine wp_region_shut Ext (fun w' => Ext wr w') (fun
            | 8 => some (fun v _ => v = .bool false)
            | 23 => some (fun v _ => v = .bool false)
            | _ => none) (by kernel_rfl) (by kernel_rfl) (fun _ _ h k => h.trans k) ?hTe (Ext.drew (Ext.refl wr)) ?_
          case hTe =>
            intro i R hR
            match i, hR with
            | 8, hR => cases hR; exact fun _ _ _ h _ => h
            | 23, hR => cases hR; exact fun _ _ _ h _ => h
          refine wM_val ?ue0 rfl rfl Ext.refl (fun w' hD => ?he0) (fun phe0 => ?ne0)
          case he0 =>
            obtain ⟨q0, q1, q2, q3, q4, q5⟩ := FX.out w' (hx.trans hD.1)
            have gm := FM.out w' hD.1
            have gp := FP.out w' hD.1
            go_simp; rfl
          simp only [Act.put, List.setIfInBounds_toArray, List.set_cons_succ, List.set_cons_zero, Nat.reduceAdd]
          refine wM_val ?ue1 rfl rfl Ext.refl (fun w' hD => ?he1) (fun phe1 => ?ne1)
          case he1 =>
            obtain ⟨q0, q1, q2, q3, q4, q5⟩ := FX.out w' (hx.trans hD.1)
            have gm := FM.out w' hD.1
            have gp := FP.out w' hD.1
            go_simp; rfl
          simp only [Act.put, List.setIfInBounds_toArray, List.set_cons_succ, List.set_cons_zero, Nat.reduceAdd]
          refine wM_val ?ue2 rfl rfl Ext.refl (fun w' hD => ?he2) (fun phe2 => ?ne2)
          case he2 =>
            obtain ⟨q0, q1, q2, q3, q4, q5⟩ := FX.out w' (hx.trans hD.1)
            have gm := FM.out w' hD.1
            have gp := FP.out w' hD.1
            go_simp; rfl
          simp only [Act.put, List.setIfInBounds_toArray, List.set_cons_succ, List.set_cons_zero, Nat.reduceAdd]
          refine wM_val ?ue3 rfl rfl Ext.refl (fun w' hD => ?he3) (fun phe3 => ?ne3)
          case he3 =>
            obtain ⟨q0, q1, q2, q3, q4, q5⟩ := FX.out w' (hx.trans hD.1)
            have gm := FM.out w' hD.1
            have gp := FP.out w' hD.1
            go_simp; rfl
          simp only [Act.put, List.setIfInBounds_toArray, List.set_cons_succ, List.set_cons_zero, Nat.reduceAdd]
          refine wM_val ?ue4 rfl rfl Ext.refl (fun w' hD => ?he4) (fun phe4 => ?ne4)
          case he4 =>
            obtain ⟨q0, q1, q2, q3, q4, q5⟩ := FX.out w' (hx.trans hD.1)
            have gm := FM.out w' hD.1
            have gp := FP.out w' hD.1
            go_simp; rfl
          simp only [Act.put, List.setIfInBounds_toArray, List.set_cons_succ, List.set_cons_zero, Nat.reduceAdd]
          refine wM_val ?ue5 rfl rfl Ext.refl (fun w' hD => ?he5) (fun phe5 => ?ne5)
          case he5 =>
            obtain ⟨q0, q1, q2, q3, q4, q5⟩ := FX.out w' (hx.trans hD.1)
            have gm := FM.out w' hD.1
            have gp := FP.out w' hD.1
            go_simp; rfl
          simp only [Act.put, List.setIfInBounds_toArray, List.set_cons_succ, List.set_cons_zero, Nat.reduceAdd]
          refine wM_val ?ue6 rfl rfl Ext.refl (fun w' hD => ?he6) (fun phe6 => ?ne6)
          case he6 =>
            obtain ⟨q0, q1, q2, q3, q4, q5⟩ := FX.out w' (hx.trans hD.1)
            have gm := FM.out w' hD.1
            have gp := FP.out w' hD.1
            go_simp; rfl
          simp only [Act.put, List.setIfInBounds_toArray, List.set_cons_succ, List.set_cons_zero, Nat.reduceAdd]
          refine wM_val ?ue7 rfl rfl Ext.refl (fun w' hD => ?he7) (fun phe7 => ?ne7)
          case he7 =>
            obtain ⟨q0, q1, q2, q3, q4, q5⟩ := FX.out w' (hx.trans hD.1)
            have gm := FM.out w' hD.1
            have gp := FP.out w' hD.1
            go_simp; rfl
          simp only [Act.put, List.setIfInBounds_toArray, List.set_cons_succ, List.set_cons_zero, Nat.reduceAdd]
          refine wM_op _ rfl rfl (opens_call ?fe8 ?ge8 (fun w' hD => ?he8) (fun w' hD => ?ce8)) (fun v8 hv8 => ?ne8)
          case he8 => go_simp; constructor <;> rfl
          case ce8 =>
            refine (KO.out w').mono ?_
            rintro e w2 ⟨rfl, hb⟩
            exact ⟨_, rfl, hb, rfl⟩
          obtain ⟨_, -, -, rfl⟩ := hv8
          simp only [Act.put, List.setIfInBounds_toArray, List.set_cons_succ, List.set_cons_zero, Nat.reduceAdd]
          refine wM_val ?ue9 rfl rfl Ext.refl (fun w' hD => ?he9) (fun phe9 => ?ne9)
          case he9 =>
            obtain ⟨q0, q1, q2, q3, q4, q5⟩ := FX.out w' (hx.trans hD.1)
            have gm := FM.out w' hD.1
            have gp := FP.out w' hD.1
            go_simp; rfl
          simp only [Act.put, List.setIfInBounds_toArray, List.set_cons_succ, List.set_cons_zero, Nat.reduceAdd]
          refine wM_val ?ue10 rfl rfl Ext.refl (fun w' hD => ?he10) (fun phe10 => ?ne10)
          case he10 =>
            obtain ⟨q0, q1, q2, q3, q4, q5⟩ := FX.out w' (hx.trans hD.1)
            have gm := FM.out w' hD.1
            have gp := FP.out w' hD.1
            go_simp; rfl
          simp only [Act.put, List.setIfInBounds_toArray, List.set_cons_succ, List.set_cons_zero, Nat.reduceAdd]
          refine wM_val (.bool true) rfl rfl Ext.refl (fun w' hD => ?he11) (fun phe11 => ?ne11)
          case he11 => go_simp; first | done | rfl | omega | (simp; omega)
          simp only [Act.put, List.setIfInBounds_toArray, List.set_cons_succ, List.set_cons_zero, Nat.reduceAdd]
          refine wM_val ?ue12 rfl rfl Ext.refl (fun w' hD => ?he12) (fun phe12 => ?ne12)
          case he12 =>
            obtain ⟨q0, q1, q2, q3, q4, q5⟩ := FX.out w' (hx.trans hD.1)
            have gm := FM.out w' hD.1
            have gp := FP.out w' hD.1
            go_simp; rfl
          simp only [Act.put, List.setIfInBounds_toArray, List.set_cons_succ, List.set_cons_zero, Nat.reduceAdd]
          refine wM_val ?ue13 rfl rfl Ext.refl (fun w' hD => ?he13) (fun phe13 => ?ne13)
          case he13 =>
            obtain ⟨q0, q1, q2, q3, q4, q5⟩ := FX.out w' (hx.trans hD.1)
            have gm := FM.out w' hD.1
            have gp := FP.out w' hD.1
            go_simp; rfl
          simp only [Act.put, List.setIfInBounds_toArray, List.set_cons_succ, List.set_cons_zero, Nat.reduceAdd]
          refine wM_val ?ue14 rfl rfl Ext.refl (fun w' hD => ?he14) (fun phe14 => ?ne14)
          case he14 =>
            obtain ⟨q0, q1, q2, q3, q4, q5⟩ := FX.out w' (hx.trans hD.1)
            have gm := FM.out w' hD.1
            have gp := FP.out w' hD.1
            go_simp; rfl
          simp only [Act.put, List.setIfInBounds_toArray, List.set_cons_succ, List.set_cons_zero, Nat.reduceAdd]
          refine wM_val ?ue15 rfl rfl Ext.refl (fun w' hD => ?he15) (fun phe15 => ?ne15)
          case he15 =>
            obtain ⟨q0, q1, q2, q3, q4, q5⟩ := FX.out w' (hx.trans hD.1)
            have gm := FM.out w' hD.1
            have gp := FP.out w' hD.1
            go_simp; rfl
          simp only [Act.put, List.setIfInBounds_toArray, List.set_cons_succ, List.set_cons_zero, Nat.reduceAdd]
          refine wM_val ?ue16 rfl rfl Ext.refl (fun w' hD => ?he16) (fun phe16 => ?ne16)
          case he16 =>
            obtain ⟨q0, q1, q2, q3, q4, q5⟩ := FX.out w' (hx.trans hD.1)
            have gm := FM.out w' hD.1
            have gp := FP.out w' hD.1
            go_simp; rfl
          simp only [Act.put, List.setIfInBounds_toArray, List.set_cons_succ, List.set_cons_zero, Nat.reduceAdd]
          refine wM_val ?ue17 rfl rfl Ext.refl (fun w' hD => ?he17) (fun phe17 => ?ne17)
          case he17 =>
            obtain ⟨q0, q1, q2, q3, q4, q5⟩ := FX.out w' (hx.trans hD.1)
            have gm := FM.out w' hD.1
            have gp := FP.out w' hD.1
            go_simp; rfl
          simp only [Act.put, List.setIfInBounds_toArray, List.set_cons_succ, List.set_cons_zero, Nat.reduceAdd]
          refine wM_val ?ue18 rfl rfl Ext.refl (fun w' hD => ?he18) (fun phe18 => ?ne18)
          case he18 =>
            obtain ⟨q0, q1, q2, q3, q4, q5⟩ := FX.out w' (hx.trans hD.1)
            have gm := FM.out w' hD.1
            have gp := FP.out w' hD.1
            go_simp; rfl
          simp only [Act.put, List.setIfInBounds_toArray, List.set_cons_succ, List.set_cons_zero, Nat.reduceAdd]
          refine wM_val ?ue19 rfl rfl Ext.refl (fun w' hD => ?he19) (fun phe19 => ?ne19)
          case he19 =>
            obtain ⟨q0, q1, q2, q3, q4, q5⟩ := FX.out w' (hx.trans hD.1)
            have gm := FM.out w' hD.1
            have gp := FP.out w' hD.1
            go_simp; rfl
          simp only [Act.put, List.setIfInBounds_toArray, List.set_cons_succ, List.set_cons_zero, Nat.reduceAdd]
          refine wM_val ?ue20 rfl rfl Ext.refl (fun w' hD => ?he20) (fun phe20 => ?ne20)
          case he20 =>
            obtain ⟨q0, q1, q2, q3, q4, q5⟩ := FX.out w' (hx.trans hD.1)
            have gm := FM.out w' hD.1
            have gp := FP.out w' hD.1
            go_simp; rfl
          simp only [Act.put, List.setIfInBounds_toArray, List.set_cons_succ, List.set_cons_zero, Nat.reduceAdd]
          refine wM_val ?ue21 rfl rfl Ext.refl (fun w' hD => ?he21) (fun phe21 => ?ne21)
          case he21 =>
            obtain ⟨q0, q1, q2, q3, q4, q5⟩ := FX.out w' (hx.trans hD.1)
            have gm := FM.out w' hD.1
            have gp := FP.out w' hD.1
            go_simp; rfl
          simp only [Act.put, List.setIfInBounds_toArray, List.set_cons_succ, List.set_cons_zero, Nat.reduceAdd]
          refine wM_val ?ue22 rfl rfl Ext.refl (fun w' hD => ?he22) (fun phe22 => ?ne22)
          case he22 =>
            obtain ⟨q0, q1, q2, q3, q4, q5⟩ := FX.out w' (hx.trans hD.1)
            have gm := FM.out w' hD.1
            have gp := FP.out w' hD.1
            go_simp; rfl
          simp only [Act.put, List.setIfInBounds_toArray, List.set_cons_succ, List.set_cons_zero, Nat.reduceAdd]
          refine wM_op _ rfl rfl (opens_call ?fe23 ?ge23 (fun w' hD => ?he23) (fun w' hD => ?ce23)) (fun v23 hv23 => ?ne23)
          case he23 => go_simp; constructor <;> rfl
          case ce23 =>
            refine (KN.out w' hD.1).mono ?_
            rintro e w2 ⟨rfl, hb⟩
            exact ⟨_, rfl, hb, rfl⟩
          obtain ⟨_, -, -, rfl⟩ := hv23
          simp only [Act.put, List.setIfInBounds_toArray, List.set_cons_succ, List.set_cons_zero, Nat.reduceAdd]
          refine wM_val ?ue24 rfl rfl Ext.refl (fun w' hD => ?he24) (fun phe24 => ?ne24)
          case he24 =>
            obtain ⟨q0, q1, q2, q3, q4, q5⟩ := FX.out w' (hx.trans hD.1)
            have gm := FM.out w' hD.1
            have gp := FP.out w' hD.1
            go_simp; rfl
          simp only [Act.put, List.setIfInBounds_toArray, List.set_cons_succ, List.set_cons_zero, Nat.reduceAdd]
          refine wM_val ?ue25 rfl rfl Ext.refl (fun w' hD => ?he25) (fun phe25 => ?ne25)
          case he25 =>
            obtain ⟨q0, q1, q2, q3, q4, q5⟩ := FX.out w' (hx.trans hD.1)
            have gm := FM.out w' hD.1
            have gp := FP.out w' hD.1
            go_simp; rfl
          simp only [Act.put, List.setIfInBounds_toArray, List.set_cons_succ, List.set_cons_zero, Nat.reduceAdd]
          refine wM_val ?ue26 rfl rfl Ext.refl (fun w' hD => ?he26) (fun phe26 => ?ne26)
          case he26 =>
            obtain ⟨q0, q1, q2, q3, q4, q5⟩ := FX.out w' (hx.trans hD.1)
            have gm := FM.out w' hD.1
            have gp := FP.out w' hD.1
            go_simp; rfl
          simp only [Act.put, List.setIfInBounds_toArray, List.set_cons_succ, List.set_cons_zero, Nat.reduceAdd]
          refine wM_val ?ue27 rfl rfl Ext.refl (fun w' hD => ?he27) (fun phe27 => ?ne27)
          case he27 =>
            obtain ⟨q0, q1, q2, q3, q4, q5⟩ := FX.out w' (hx.trans hD.1)
            have gm := FM.out w' hD.1
            have gp := FP.out w' hD.1
            go_simp; rfl
          simp only [Act.put, List.setIfInBounds_toArray, List.set_cons_succ, List.set_cons_zero, Nat.reduceAdd]
          refine wM_skip rfl ?_
          simp only [Act.put, List.setIfInBounds_toArray, List.set_cons_succ, List.set_cons_zero, Nat.reduceAdd]
          refine wM_skip rfl ?_
          simp only [Act.put, List.setIfInBounds_toArray, List.set_cons_succ, List.set_cons_zero, Nat.reduceAdd]
          refine wM_skip rfl ?_
          simp only [Act.put, List.setIfInBounds_toArray, List.set_cons_succ, List.set_cons_zero, Nat.reduceAdd]
          refine wM_skip rfl ?_
          simp only [Act.put, List.setIfInBounds_toArray, List.set_cons_succ, List.set_cons_zero, Nat.reduceAdd]
          refine wM_skip rfl ?_
          simp only [Act.put, List.setIfInBounds_toArray, List.set_cons_succ, List.set_cons_zero, Nat.reduceAdd]
          refine wM_skip rfl ?_
          simp only [Act.put, List.setIfInBounds_toArray, List.set_cons_succ, List.set_cons_zero, Nat.reduceAdd]
          refine wM_skip rfl ?_
          simp only [Act.put, List.setIfInBounds_toArray, List.set_cons_succ, List.set_cons_zero, Nat.reduceAdd]
          refine wM_skip rfl ?_
          simp only [Act.put, List.setIfInBounds_toArray, List.set_cons_succ, List.set_cons_zero, Nat.reduceAdd]
          refine wM_skip rfl ?_
          simp only [Act.put, List.setIfInBounds_toArray, List.set_cons_succ, List.set_cons_zero, Nat.reduceAdd]
          refine wM_skip rfl ?_
          simp only [Act.put, List.setIfInBounds_toArray, List.set_cons_succ, List.set_cons_zero, Nat.reduceAdd]
          refine wM_skip rfl ?_
          simp only [Act.put, List.setIfInBounds_toArray, List.set_cons_succ, List.set_cons_zero, Nat.reduceAdd]
          refine wM_skip rfl ?_
          simp only [Act.put, List.setIfInBounds_toArray, List.set_cons_succ, List.set_cons_zero, Nat.reduceAdd]
          refine wM_val ?ue40 rfl rfl Ext.refl (fun w' hD => ?he40) (fun phe40 => ?ne40)
          case he40 =>
            obtain ⟨q0, q1, q2, q3, q4, q5⟩ := FX.out w' (hx.trans hD.1)
            have gm := FM.out w' hD.1
            have gp := FP.out w' hD.1
            go_simp; rfl
          simp only [Act.put, List.setIfInBounds_toArray, List.set_cons_succ, List.set_cons_zero, Nat.reduceAdd]
          refine wM_nil ?_
          intro w9 hw9 hF9
          clear hF9
          go_wp2
          go_ret
          exact ⟨by rw [HV.out]; rfl, (hx0.trans XX).trans hw9⟩
        go_wp2
        refine wp_region_shut Ext (fun w' => Ext wr w') (fun
          | 8 => some (fun v _ => v = .bool false)
          | 23 => some (fun v _ => v = .bool true)
          | 32 => some (fun v _ => v = .int .i64 (everyN c : Nat))
          | 38 => some (fun v _ => v = .bool AG)
          | _ => none) (by kernel_rfl) (by kernel_rfl) (fun _ _ h k => h.trans k) ?hTg (Ext.drew (Ext.refl wr)) ?_
        case hTg =>
          intro i R hR
          match i, hR with
          | 8, hR => cases hR; exact fun _ _ _ h _ => h
          | 23, hR => cases hR; exact fun _ _ _ h _ => h
          | 32, hR => cases hR; exact fun _ _ _ h _ => h
          | 38, hR => cases hR; exact fun _ _ _ h _ => h
        refine wM_val ?ug0 rfl rfl Ext.refl (fun w' hD => ?hg0) (fun phg0 => ?ng0)
        case hg0 =>
          obtain ⟨q0, q1, q2, q3, q4, q5⟩ := FX.out w' (hx.trans hD.1)
          have gm := FM.out w' hD.1
          have gp := FP.out w' hD.1
          go_simp; rfl
        simp only [Act.put, List.setIfInBounds_toArray, List.set_cons_succ, List.set_cons_zero, Nat.reduceAdd]
        refine wM_val ?ug1 rfl rfl Ext.refl (fun w' hD => ?hg1) (fun phg1 => ?ng1)
        case hg1 =>
          obtain ⟨q0, q1, q2, q3, q4, q5⟩ := FX.out w' (hx.trans hD.1)
          have gm := FM.out w' hD.1
          have gp := FP.out w' hD.1
          go_simp; rfl
        simp only [Act.put, List.setIfInBounds_toArray, List.set_cons_succ, List.set_cons_zero, Nat.reduceAdd]
        refine wM_val ?ug2 rfl rfl Ext.refl (fun w' hD => ?hg2) (fun phg2 => ?ng2)
        case hg2 =>
          obtain ⟨q0, q1, q2, q3, q4, q5⟩ := FX.out w' (hx.trans hD.1)
          have gm := FM.out w' hD.1
          have gp := FP.out w' hD.1
          go_simp; rfl
        simp only [Act.put, List.setIfInBounds_toArray, List.set_cons_succ, List.set_cons_zero, Nat.reduceAdd]
        refine wM_val ?ug3 rfl rfl Ext.refl (fun w' hD => ?hg3) (fun phg3 => ?ng3)
        case hg3 =>
          obtain ⟨q0, q1, q2, q3, q4, q5⟩ := FX.out w' (hx.trans hD.1)
          have gm := FM.out w' hD.1
          have gp := FP.out w' hD.1
          go_simp; rfl
        simp only [Act.put, List.setIfInBounds_toArray, List.set_cons_succ, List.set_cons_zero, Nat.reduceAdd]
        refine wM_val ?ug4 rfl rfl Ext.refl (fun w' hD => ?hg4) (fun phg4 => ?ng4)
        case hg4 =>
          obtain ⟨q0, q1, q2, q3, q4, q5⟩ := FX.out w' (hx.trans hD.1)
          have gm := FM.out w' hD.1
          have gp := FP.out w' hD.1
          go_simp; rfl
        simp only [Act.put, List.setIfInBounds_toArray, List.set_cons_succ, List.set_cons_zero, Nat.reduceAdd]
        refine wM_val ?ug5 rfl rfl Ext.refl (fun w' hD => ?hg5) (fun phg5 => ?ng5)
        case hg5 =>
          obtain ⟨q0, q1, q2, q3, q4, q5⟩ := FX.out w' (hx.trans hD.1)
          have gm := FM.out w' hD.1
          have gp := FP.out w' hD.1
          go_simp; rfl
        simp only [Act.put, List.setIfInBounds_toArray, List.set_cons_succ, List.set_cons_zero, Nat.reduceAdd]
        refine wM_val ?ug6 rfl rfl Ext.refl (fun w' hD => ?hg6) (fun phg6 => ?ng6)
        case hg6 =>
          obtain ⟨q0, q1, q2, q3, q4, q5⟩ := FX.out w' (hx.trans hD.1)
          have gm := FM.out w' hD.1
          have gp := FP.out w' hD.1
          go_simp; rfl
        simp only [Act.put, List.setIfInBounds_toArray, List.set_cons_succ, List.set_cons_zero, Nat.reduceAdd]
        refine wM_val ?ug7 rfl rfl Ext.refl (fun w' hD => ?hg7) (fun phg7 => ?ng7)
        case hg7 =>
          obtain ⟨q0, q1, q2, q3, q4, q5⟩ := FX.out w' (hx.trans hD.1)
          have gm := FM.out w' hD.1
          have gp := FP.out w' hD.1
          go_simp; rfl
        simp only [Act.put, List.setIfInBounds_toArray, List.set_cons_succ, List.set_cons_zero, Nat.reduceAdd]
        refine wM_op _ rfl rfl (opens_call ?fg8 ?gg8 (fun w' hD => ?hg8) (fun w' hD => ?cg8)) (fun v8 hv8 => ?ng8)
        case hg8 => go_simp; constructor <;> rfl
        case cg8 =>
          refine (KO.out w').mono ?_
          rintro e w2 ⟨rfl, hb⟩
          exact ⟨_, rfl, hb, rfl⟩
        obtain ⟨_, -, -, rfl⟩ := hv8
        simp only [Act.put, List.setIfInBounds_toArray, List.set_cons_succ, List.set_cons_zero, Nat.reduceAdd]
        refine wM_val ?ug9 rfl rfl Ext.refl (fun w' hD => ?hg9) (fun phg9 => ?ng9)
        case hg9 =>
          obtain ⟨q0, q1, q2, q3, q4, q5⟩ := FX.out w' (hx.trans hD.1)
          have gm := FM.out w' hD.1
          have gp := FP.out w' hD.1
          go_simp; rfl
        simp only [Act.put, List.setIfInBounds_toArray, List.set_cons_succ, List.set_cons_zero, Nat.reduceAdd]
        refine wM_val ?ug10 rfl rfl Ext.refl (fun w' hD => ?hg10) (fun phg10 => ?ng10)
        case hg10 =>
          obtain ⟨q0, q1, q2, q3, q4, q5⟩ := FX.out w' (hx.trans hD.1)
          have gm := FM.out w' hD.1
          have gp := FP.out w' hD.1
          go_simp; rfl
        simp only [Act.put, List.setIfInBounds_toArray, List.set_cons_succ, List.set_cons_zero, Nat.reduceAdd]
        refine wM_val (.bool true) rfl rfl Ext.refl (fun w' hD => ?hg11) (fun phg11 => ?ng11)
        case hg11 => go_simp; first | done | rfl | omega | (simp; omega)
        simp only [Act.put, List.setIfInBounds_toArray, List.set_cons_succ, List.set_cons_zero, Nat.reduceAdd]
        refine wM_val ?ug12 rfl rfl Ext.refl (fun w' hD => ?hg12) (fun phg12 => ?ng12)
        case hg12 =>
          obtain ⟨q0, q1, q2, q3, q4, q5⟩ := FX.out w' (hx.trans hD.1)
          have gm := FM.out w' hD.1
          have gp := FP.out w' hD.1
          go_simp; rfl
        simp only [Act.put, List.setIfInBounds_toArray, List.set_cons_succ, List.set_cons_zero, Nat.reduceAdd]
        refine wM_val ?ug13 rfl rfl Ext.refl (fun w' hD => ?hg13) (fun phg13 => ?ng13)
        case hg13 =>
          obtain ⟨q0, q1, q2, q3, q4, q5⟩ := FX.out w' (hx.trans hD.1)
          have gm := FM.out w' hD.1
          have gp := FP.out w' hD.1
          go_simp; rfl
        simp only [Act.put, List.setIfInBounds_toArray, List.set_cons_succ, List.set_cons_zero, Nat.reduceAdd]
        refine wM_val ?ug14 rfl rfl Ext.refl (fun w' hD => ?hg14) (fun phg14 => ?ng14)
        case hg14 =>
          obtain ⟨q0, q1, q2, q3, q4, q5⟩ := FX.out w' (hx.trans hD.1)
          have gm := FM.out w' hD.1
          have gp := FP.out w' hD.1
          go_simp; rfl
        simp only [Act.put, List.setIfInBounds_toArray, List.set_cons_succ, List.set_cons_zero, Nat.reduceAdd]
        refine wM_val ?ug15 rfl rfl Ext.refl (fun w' hD => ?hg15) (fun phg15 => ?ng15)
        case hg15 =>
          obtain ⟨q0, q1, q2, q3, q4, q5⟩ := FX.out w' (hx.trans hD.1)
          have gm := FM.out w' hD.1
          have gp := FP.out w' hD.1
          go_simp; rfl
        simp only [Act.put, List.setIfInBounds_toArray, List.set_cons_succ, List.set_cons_zero, Nat.reduceAdd]
        refine wM_val ?ug16 rfl rfl Ext.refl (fun w' hD => ?hg16) (fun phg16 => ?ng16)
        case hg16 =>
          obtain ⟨q0, q1, q2, q3, q4, q5⟩ := FX.out w' (hx.trans hD.1)
          have gm := FM.out w' hD.1
          have gp := FP.out w' hD.1
          go_simp; rfl
        simp only [Act.put, List.setIfInBounds_toArray, List.set_cons_succ, List.set_cons_zero, Nat.reduceAdd]
        refine wM_val ?ug17 rfl rfl Ext.refl (fun w' hD => ?hg17) (fun phg17 => ?ng17)
        case hg17 =>
          obtain ⟨q0, q1, q2, q3, q4, q5⟩ := FX.out w' (hx.trans hD.1)
          have gm := FM.out w' hD.1
          have gp := FP.out w' hD.1
          go_simp; rfl
        simp only [Act.put, List.setIfInBounds_toArray, List.set_cons_succ, List.set_cons_zero, Nat.reduceAdd]
        refine wM_val ?ug18 rfl rfl Ext.refl (fun w' hD => ?hg18) (fun phg18 => ?ng18)
        case hg18 =>
          obtain ⟨q0, q1, q2, q3, q4, q5⟩ := FX.out w' (hx.trans hD.1)
          have gm := FM.out w' hD.1
          have gp := FP.out w' hD.1
          go_simp; rfl
        simp only [Act.put, List.setIfInBounds_toArray, List.set_cons_succ, List.set_cons_zero, Nat.reduceAdd]
        refine wM_val ?ug19 rfl rfl Ext.refl (fun w' hD => ?hg19) (fun phg19 => ?ng19)
        case hg19 =>
          obtain ⟨q0, q1, q2, q3, q4, q5⟩ := FX.out w' (hx.trans hD.1)
          have gm := FM.out w' hD.1
          have gp := FP.out w' hD.1
          go_simp; rfl
        simp only [Act.put, List.setIfInBounds_toArray, List.set_cons_succ, List.set_cons_zero, Nat.reduceAdd]
        refine wM_val ?ug20 rfl rfl Ext.refl (fun w' hD => ?hg20) (fun phg20 => ?ng20)
        case hg20 =>
          obtain ⟨q0, q1, q2, q3, q4, q5⟩ := FX.out w' (hx.trans hD.1)
          have gm := FM.out w' hD.1
          have gp := FP.out w' hD.1
          go_simp; rfl
        simp only [Act.put, List.setIfInBounds_toArray, List.set_cons_succ, List.set_cons_zero, Nat.reduceAdd]
        refine wM_val ?ug21 rfl rfl Ext.refl (fun w' hD => ?hg21) (fun phg21 => ?ng21)
        case hg21 =>
          obtain ⟨q0, q1, q2, q3, q4, q5⟩ := FX.out w' (hx.trans hD.1)
          have gm := FM.out w' hD.1
          have gp := FP.out w' hD.1
          go_simp; rfl
        simp only [Act.put, List.setIfInBounds_toArray, List.set_cons_succ, List.set_cons_zero, Nat.reduceAdd]
        refine wM_val ?ug22 rfl rfl Ext.refl (fun w' hD => ?hg22) (fun phg22 => ?ng22)
        case hg22 =>
          obtain ⟨q0, q1, q2, q3, q4, q5⟩ := FX.out w' (hx.trans hD.1)
          have gm := FM.out w' hD.1
          have gp := FP.out w' hD.1
          go_simp; rfl
        simp only [Act.put, List.setIfInBounds_toArray, List.set_cons_succ, List.set_cons_zero, Nat.reduceAdd]
        refine wM_op _ rfl rfl (opens_call ?fg23 ?gg23 (fun w' hD => ?hg23) (fun w' hD => ?cg23)) (fun v23 hv23 => ?ng23)
        case hg23 => go_simp; constructor <;> rfl
        case cg23 =>
          refine (KN.out w' hD.1).mono ?_
          rintro e w2 ⟨rfl, hb⟩
          exact ⟨_, rfl, hb, rfl⟩
        obtain ⟨_, -, -, rfl⟩ := hv23
        simp only [Act.put, List.setIfInBounds_toArray, List.set_cons_succ, List.set_cons_zero, Nat.reduceAdd]
        refine wM_val ?ug24 rfl rfl Ext.refl (fun w' hD => ?hg24) (fun phg24 => ?ng24)
        case hg24 =>
          obtain ⟨q0, q1, q2, q3, q4, q5⟩ := FX.out w' (hx.trans hD.1)
          have gm := FM.out w' hD.1
          have gp := FP.out w' hD.1
          go_simp; rfl
        simp only [Act.put, List.setIfInBounds_toArray, List.set_cons_succ, List.set_cons_zero, Nat.reduceAdd]
        refine wM_val ?ug25 rfl rfl Ext.refl (fun w' hD => ?hg25) (fun phg25 => ?ng25)
        case hg25 =>
          obtain ⟨q0, q1, q2, q3, q4, q5⟩ := FX.out w' (hx.trans hD.1)
          have gm := FM.out w' hD.1
          have gp := FP.out w' hD.1
          go_simp; rfl
        simp only [Act.put, List.setIfInBounds_toArray, List.set_cons_succ, List.set_cons_zero, Nat.reduceAdd]
        refine wM_val ?ug26 rfl rfl Ext.refl (fun w' hD => ?hg26) (fun phg26 => ?ng26)
        case hg26 =>
          obtain ⟨q0, q1, q2, q3, q4, q5⟩ := FX.out w' (hx.trans hD.1)
          have gm := FM.out w' hD.1
          have gp := FP.out w' hD.1
          go_simp; rfl
        simp only [Act.put, List.setIfInBounds_toArray, List.set_cons_succ, List.set_cons_zero, Nat.reduceAdd]
        refine wM_val ?ug27 rfl rfl Ext.refl (fun w' hD => ?hg27) (fun phg27 => ?ng27)
        case hg27 =>
          obtain ⟨q0, q1, q2, q3, q4, q5⟩ := FX.out w' (hx.trans hD.1)
          have gm := FM.out w' hD.1
          have gp := FP.out w' hD.1
          go_simp; rfl
        simp only [Act.put, List.setIfInBounds_toArray, List.set_cons_succ, List.set_cons_zero, Nat.reduceAdd]
        refine wM_val ?ug28 rfl rfl Ext.refl (fun w' hD => ?hg28) (fun phg28 => ?ng28)
        case hg28 =>
          obtain ⟨q0, q1, q2, q3, q4, q5⟩ := FX.out w' (hx.trans hD.1)
          have gm := FM.out w' hD.1
          have gp := FP.out w' hD.1
          go_simp; rfl
        simp only [Act.put, List.setIfInBounds_toArray, List.set_cons_succ, List.set_cons_zero, Nat.reduceAdd]
        refine wM_val ?ug29 rfl rfl Ext.refl (fun w' hD => ?hg29) (fun phg29 => ?ng29)
        case hg29 =>
          obtain ⟨q0, q1, q2, q3, q4, q5⟩ := FX.out w' (hx.trans hD.1)
          have gm := FM.out w' hD.1
          have gp := FP.out w' hD.1
          go_simp; rfl
        simp only [Act.put, List.setIfInBounds_toArray, List.set_cons_succ, List.set_cons_zero, Nat.reduceAdd]
        refine wM_val ?ug30 rfl rfl Ext.refl (fun w' hD => ?hg30) (fun phg30 => ?ng30)
        case hg30 =>
          obtain ⟨q0, q1, q2, q3, q4, q5⟩ := FX.out w' (hx.trans hD.1)
          have gm := FM.out w' hD.1
          have gp := FP.out w' hD.1
          go_simp; rfl
        simp only [Act.put, List.setIfInBounds_toArray, List.set_cons_succ, List.set_cons_zero, Nat.reduceAdd]
        refine wM_val ?ug31 rfl rfl Ext.refl (fun w' hD => ?hg31) (fun phg31 => ?ng31)
        case hg31 =>
          obtain ⟨q0, q1, q2, q3, q4, q5⟩ := FX.out w' (hx.trans hD.1)
          have gm := FM.out w' hD.1
          have gp := FP.out w' hD.1
          go_simp; rfl
        simp only [Act.put, List.setIfInBounds_toArray, List.set_cons_succ, List.set_cons_zero, Nat.reduceAdd]
        refine wM_op _ rfl rfl (opens_call ?fg32 ?gg32 (fun w' hD => ?hg32) (fun w' hD => ?cg32)) (fun v32 hv32 => ?ng32)
        case hg32 => go_simp; constructor <;> rfl
        case cg32 =>
          refine (refevery_any _ f (distL f) k c w' (HFF.out w' (hx.trans hD.1)) HC.out h8).mono ?_
          rintro e w2 ⟨rfl, hb⟩
          exact ⟨_, rfl, hb, rfl⟩
        obtain ⟨_, -, -, rfl⟩ := hv32
        simp only [Act.put, List.setIfInBounds_toArray, List.set_cons_succ, List.set_cons_zero, Nat.reduceAdd]
        refine wM_val ?ug33 rfl rfl Ext.refl (fun w' hD => ?hg33) (fun phg33 => ?ng33)
        case hg33 =>
          obtain ⟨q0, q1, q2, q3, q4, q5⟩ := FX.out w' (hx.trans hD.1)
          have gm := FM.out w' hD.1
          have gp := FP.out w' hD.1
          go_simp; rfl
        simp only [Act.put, List.setIfInBounds_toArray, List.set_cons_succ, List.set_cons_zero, Nat.reduceAdd]
        refine wM_val ?ug34 rfl rfl Ext.refl (fun w' hD => ?hg34) (fun phg34 => ?ng34)
        case hg34 =>
          obtain ⟨q0, q1, q2, q3, q4, q5⟩ := FX.out w' (hx.trans hD.1)
          have gm := FM.out w' hD.1
          have gp := FP.out w' hD.1
          go_simp; rfl
        simp only [Act.put, List.setIfInBounds_toArray, List.set_cons_succ, List.set_cons_zero, Nat.reduceAdd]
        refine wM_val ?ug35 rfl rfl Ext.refl (fun w' hD => ?hg35) (fun phg35 => ?ng35)
        case hg35 =>
          obtain ⟨q0, q1, q2, q3, q4, q5⟩ := FX.out w' (hx.trans hD.1)
          have gm := FM.out w' hD.1
          have gp := FP.out w' hD.1
          go_simp; rfl
        simp only [Act.put, List.setIfInBounds_toArray, List.set_cons_succ, List.set_cons_zero, Nat.reduceAdd]
        refine wM_val ?ug36 rfl rfl Ext.refl (fun w' hD => ?hg36) (fun phg36 => ?ng36)
        case hg36 =>
          obtain ⟨q0, q1, q2, q3, q4, q5⟩ := FX.out w' (hx.trans hD.1)
          have gm := FM.out w' hD.1
          have gp := FP.out w' hD.1
          go_simp; rfl
        simp only [Act.put, List.setIfInBounds_toArray, List.set_cons_succ, List.set_cons_zero, Nat.reduceAdd]
        refine wM_val ?ug37 rfl rfl Ext.refl (fun w' hD => ?hg37) (fun phg37 => ?ng37)
        case hg37 =>
          obtain ⟨q0, q1, q2, q3, q4, q5⟩ := FX.out w' (hx.trans hD.1)
          have gm := FM.out w' hD.1
          have gp := FP.out w' hD.1
          go_simp; rfl
        simp only [Act.put, List.setIfInBounds_toArray, List.set_cons_succ, List.set_cons_zero, Nat.reduceAdd]
        refine wM_op _ rfl rfl (opens_call ?fg38 ?gg38 (fun w' hD => ?hg38) (fun w' hD => ?cg38)) (fun v38 hv38 => ?ng38)
        case hg38 => go_simp; constructor <;> rfl
        case cg38 =>
          refine (KG.out w' hD.1).mono ?_
          rintro e w2 ⟨rfl, hb⟩
          exact ⟨_, rfl, hb, rfl⟩
        obtain ⟨_, -, -, rfl⟩ := hv38
        simp only [Act.put, List.setIfInBounds_toArray, List.set_cons_succ, List.set_cons_zero, Nat.reduceAdd]
        refine wM_val ?ug39 rfl rfl Ext.refl (fun w' hD => ?hg39) (fun phg39 => ?ng39)
        case hg39 =>
          obtain ⟨q0, q1, q2, q3, q4, q5⟩ := FX.out w' (hx.trans hD.1)
          have gm := FM.out w' hD.1
          have gp := FP.out w' hD.1
          go_simp; rfl
        simp only [Act.put, List.setIfInBounds_toArray, List.set_cons_succ, List.set_cons_zero, Nat.reduceAdd]
        refine wM_val ?ug40 rfl rfl Ext.refl (fun w' hD => ?hg40) (fun phg40 => ?ng40)
        case hg40 =>
          obtain ⟨q0, q1, q2, q3, q4, q5⟩ := FX.out w' (hx.trans hD.1)
          have gm := FM.out w' hD.1
          have gp := FP.out w' hD.1
          go_simp; rfl
        simp only [Act.put, List.setIfInBounds_toArray, List.set_cons_succ, List.set_cons_zero, Nat.reduceAdd]
        refine wM_nil ?_
        intro w9 hw9 hF9
        clear hF9
        cases AG
        case false =>
          have HV : Hid (VV = false) := FIN.out _ rfl (by unfold fitAt; rw [HGX.out, HPO.out, Nat.add_sub_cancel, HWX.out, HWY.out, HNB.out, HAG.out]; simp)
          go_wp2
          go_ret
          exact ⟨by rw [HV.out]; rfl, (hx0.trans XX).trans hw9⟩
        have HJ9 : Hid ((List.range ((j + 1) + 1)).all (fitAt (farM f) f c l) = true) := fitAt_le HJ.out (by unfold fitAt; rw [HGX.out, HPO.out, Nat.add_sub_cancel, HWX.out, HWY.out, HNB.out, HAG.out]; simp)
        try simp only [Bool.not_true]
        go_wp2
        go_roundw
        case rel => exact ⟨(j + 1) + 1, by omega, by go_num, rfl, HJ9, hx.trans hw9⟩
        case measure => simp [intOf]; try omega
    · have hlt' : ¬ (j : Int) < (l.length : Int) := by omega
      have hje : j = l.length := by omega
      have HV : Hid (VV = true) := by
        have h := HJ.out
        rw [hje] at h
        unfold Hid; rw [← HFR.out]; unfold fitsR
        rw [decide_eq_true HLN.out, HB3.out, h]; rfl
      clear hje
      go_wp2
      go_ret
      exact ⟨by rw [HV.out]; rfl, hx0.trans hx⟩
end Go.Proofs.YtpbpcplboikpcaaGreat
