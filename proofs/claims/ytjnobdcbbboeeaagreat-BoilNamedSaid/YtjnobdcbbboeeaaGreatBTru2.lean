/- The walks of boil's truth and Truth. Printed by my gen_btru2.py. -/
import Derived.Test.YtjnobdcbbboeeaaGreatBRts
import Derived.Test.YtjnobdcbbboeeaaGreatH2
namespace Go.Proofs.YtjnobdcbbboeeaaGreat
open Go Go.RowKit Go.Shelf
set_option linter.unusedVariables false
set_option linter.unusedSimpArgs false

theorem prs_get {w : World} {A : Option Addr} {l : List Rt} (hA : Prs w A l) {i : Nat} {x : Rt} (hi : l[i]? = some x) : ∃ b off, A = some ⟨b, off, none⟩ ∧ w.cell? ⟨b, off + i * 2, none⟩ = some (.int .i64 x.1) ∧ w.cell? ⟨b, off + i * 2 + 1, none⟩ = some (.int .i64 x.2) := by
  obtain ⟨b, off, hAA, hc⟩ := Rows.at_ hA (by decide) hi
  exact ⟨b, off, hAA, hc 0 _ rfl, hc 1 _ rfl⟩
theorem step_is {h : Hs} {l : List Rt} {k : Nat} {x y : Rt} (hx : l[k]? = some x) (hy : l[k + 1]? = some y) : stepT h l (k + 1) = !((decide (((k + 1 : Nat) : Int) ≤ h.pk) && abv x y) || (decide (h.pk < ((k + 1 : Nat) : Int)) && abv y x)) := by
  unfold stepT
  rw [Nat.add_sub_cancel]
  rw [show l.getD k (0, 0) = x from by rw [List.getD_eq_getElem?_getD, hx]; rfl, show l.getD (k + 1) (0, 0) = y from by rw [List.getD_eq_getElem?_getD, hy]; rfl]
set_option maxRecDepth 100000 in
set_option maxHeartbeats 8000000 in
theorem truthm_any (v : Value) (h : Hs) (w : World) (hr : HsR w v h) (hpk : -1000000 ≤ h.pk ∧ h.pk ≤ 1000000) (Ar : Option Addr) (cr : Nat) (l : List Rt) (hA : Prs w Ar l) (hl : l.length ≤ 1000000) (hsm : ∀ q ∈ l, Rsm q) :
    Calls Tryz.prog 32 #[v, .slice Ar l.length cr] w fun e w' => e = .returned (.bool (truthH h l)) ∧ Ext w w' := by
  obtain ⟨A, c, rfl, hrw, hcap⟩ := hr
  obtain ⟨w1, hw1⟩ : ∃ w1, w.alloc (.cells #[.int .i64 h.mo, .int .i64 h.pk, .slice A h.ws.length c] 25) = w1 := ⟨_, rfl⟩
  have hx1 : Ext w w1 := by rw [← hw1]; exact Ext.alloc (Ext.refl w) _
  have b1 : w1.heap[w.heap.size]? = some (.cells #[.int .i64 h.mo, .int .i64 h.pk, .slice A h.ws.length c] 25 (0, 0)) := by rw [← hw1]; exact heap_alloc_new w _
  have hp1 : w1.cell? ⟨w.heap.size, 1, none⟩ = some (.int .i64 h.pk) := by rw [cell_of_row w1 w.heap.size 1 _ _ _ b1]; rfl
  have HA : Hid (∀ w', Ext w1 w' → Prs w' Ar l) := fun w' hx => Rows.ext hA (hx1.trans hx)
  have HW1 := hid hw1
  obtain ⟨N, hN⟩ : ∃ N : Nat, l.length = N := ⟨_, rfl⟩
  have HN := hid hN
  obtain ⟨F, hF⟩ : ∃ F, truthH h l = F := ⟨_, rfl⟩
  have HBAD : Hid (∀ j, 1 ≤ j → j < N → stepT h l j = false → F = false) := fun j h1 h2 h3 => by
    rw [← hF]
    unfold truthH
    rw [List.all_eq_false]
    exact ⟨j, List.mem_range'.2 ⟨j - 1, by omega, by omega⟩, by rw [h3]; simp⟩
  have HALL : Hid ((∀ j, 1 ≤ j → j < N → stepT h l j = true) → F = true) := fun h1 => by
    rw [← hF]
    unfold truthH
    rw [List.all_eq_true]
    intro j hj
    obtain ⟨i, hi, rfl⟩ := List.mem_range'.1 hj
    exact h1 _ (by omega) (by omega)
  have HSM := hid hsm
  rw [hF]
  rw [hN] at hl ⊢
  clear hw1 hrw b1 hA hN hF hsm
  unfold hval
  go_enter Tryz.func32, Tryz.ntmps32
  go_upto_region 1 with fail
  rw [HW1.out]
  clear HW1
  go_wp2_with fail
  go_loopw [5] (fun i wr => ∃ k : Nat, i = .int .i64 ((k : Int) + 1) ∧ (k = 0 ∨ k + 1 ≤ N) ∧ Hid (∀ j, 1 ≤ j → j ≤ k → stepT h l j = true) ∧ Ext w1 wr) (fun i _ => N + 1 - (intOf i).toNat)
  case atStart => exact ⟨0, rfl, .inl rfl, fun j h1 h2 => by omega, Ext.refl _⟩
  case round =>
    obtain ⟨k, rfl, hk, HGO, hxr⟩ := hrel
    by_cases hlt : k + 1 < N
    · have hlt' : (k : Int) + 1 < (N : Int) := by omega
      have hkN' : (k : Int) < (N : Int) := by omega
      have hkN : k < N := by omega
      obtain ⟨x, hx⟩ := get_of_lt l k (by rw [HN.out]; omega)
      obtain ⟨y, hy⟩ := get_of_lt l (k + 1) (by rw [HN.out]; omega)
      have HX := hid (HSM.out x (List.mem_of_getElem? hx))
      have HY := hid (HSM.out y (List.mem_of_getElem? hy))
      have HST := hid (step_is (h := h) hx hy)
      obtain ⟨b, off, hAA, x0, x1⟩ := prs_get (HA.out wr hxr) hx
      obtain ⟨b2, off2, hAA2, y0, y1⟩ := prs_get (HA.out wr hxr) hy
      rw [hAA] at hAA2
      injection hAA2 with hAA2
      injection hAA2 with q1 q2
      subst q1
      subst q2
      subst hAA
      have FX : Hid (∀ w', Ext wr w' → w'.cell? ⟨w.heap.size, 1, none⟩ = some (.int .i64 h.pk) ∧ w'.cell? ⟨b, off + k * 2, none⟩ = some (.int .i64 x.1) ∧ w'.cell? ⟨b, off + k * 2 + 1, none⟩ = some (.int .i64 x.2) ∧ w'.cell? ⟨b, off + (k + 1) * 2, none⟩ = some (.int .i64 y.1) ∧ w'.cell? ⟨b, off + (k + 1) * 2 + 1, none⟩ = some (.int .i64 y.2)) := fun w' hw => ⟨(hxr.trans hw).cell hp1, hw.cell x0, hw.cell x1, hw.cell y0, hw.cell y1⟩
      clear hx hy x0 x1 y0 y1
      have HWK : Hid (IntKind.i64.wrap (k : Int) = (k : Int)) := IntWalk.i64_in _ ⟨by omega, by omega⟩
      go_wp2_with fail
      by_cases hm : (k : Int) + 1 ≤ h.pk
      · have hP : decide (((k + 1 : Nat) : Int) ≤ h.pk) = true := decide_eq_true (by omega)
        have hQ : decide (h.pk < ((k + 1 : Nat) : Int)) = false := decide_eq_false (by omega)
        cases hb : abv x y with
        | true =>
          have HB := hid hb
          have HS : Hid (stepT h l (k + 1) = false) := by unfold Hid; rw [HST.out, hP, hb]; rfl
          clear hb HST hP hQ
          refine wp_region_shut Ext (fun w' => Ext wr w') (fun
            | 14 => some (fun v _ => v = .bool (abv x y))
            | _ => none) (by kernel_rfl) (by kernel_rfl) (fun _ _ h k => h.trans k) ?hTa (Ext.drew (Ext.refl wr)) ?_
          case hTa =>
            intro i R hR
            match i, hR with
            | 14, hR => cases hR; exact fun _ _ _ h _ => h
          refine wM_val ?ua0 rfl rfl Ext.refl (fun w' hD => ?ha0) (fun pha0 => ?na0)
          case ha0 =>
            obtain ⟨d1, e0, e1, f0, f1⟩ := FX.out w' hD.1
            go_simp; rfl
          simp only [Act.put, List.setIfInBounds_toArray, List.set_cons_succ, List.set_cons_zero, Nat.reduceAdd]
          refine wM_val ?ua1 rfl rfl Ext.refl (fun w' hD => ?ha1) (fun pha1 => ?na1)
          case ha1 =>
            obtain ⟨d1, e0, e1, f0, f1⟩ := FX.out w' hD.1
            go_simp; rfl
          simp only [Act.put, List.setIfInBounds_toArray, List.set_cons_succ, List.set_cons_zero, Nat.reduceAdd]
          refine wM_val ?ua2 rfl rfl Ext.refl (fun w' hD => ?ha2) (fun pha2 => ?na2)
          case ha2 =>
            obtain ⟨d1, e0, e1, f0, f1⟩ := FX.out w' hD.1
            go_simp; rfl
          simp only [Act.put, List.setIfInBounds_toArray, List.set_cons_succ, List.set_cons_zero, Nat.reduceAdd]
          refine wM_val ?ua3 rfl rfl Ext.refl (fun w' hD => ?ha3) (fun pha3 => ?na3)
          case ha3 =>
            obtain ⟨d1, e0, e1, f0, f1⟩ := FX.out w' hD.1
            go_simp; rfl
          simp only [Act.put, List.setIfInBounds_toArray, List.set_cons_succ, List.set_cons_zero, Nat.reduceAdd]
          refine wM_val ?ua4 rfl rfl Ext.refl (fun w' hD => ?ha4) (fun pha4 => ?na4)
          case ha4 =>
            obtain ⟨d1, e0, e1, f0, f1⟩ := FX.out w' hD.1
            go_simp; rfl
          simp only [Act.put, List.setIfInBounds_toArray, List.set_cons_succ, List.set_cons_zero, Nat.reduceAdd]
          refine wM_val ?ua5 rfl rfl Ext.refl (fun w' hD => ?ha5) (fun pha5 => ?na5)
          case ha5 =>
            obtain ⟨d1, e0, e1, f0, f1⟩ := FX.out w' hD.1
            go_simp; rfl
          simp only [Act.put, List.setIfInBounds_toArray, List.set_cons_succ, List.set_cons_zero, Nat.reduceAdd]
          refine wM_val ?ua6 rfl rfl Ext.refl (fun w' hD => ?ha6) (fun pha6 => ?na6)
          case ha6 =>
            obtain ⟨d1, e0, e1, f0, f1⟩ := FX.out w' hD.1
            go_simp; rfl
          simp only [Act.put, List.setIfInBounds_toArray, List.set_cons_succ, List.set_cons_zero, Nat.reduceAdd]
          refine wM_val ?ua7 rfl rfl Ext.refl (fun w' hD => ?ha7) (fun pha7 => ?na7)
          case ha7 =>
            obtain ⟨d1, e0, e1, f0, f1⟩ := FX.out w' hD.1
            go_simp; rfl
          simp only [Act.put, List.setIfInBounds_toArray, List.set_cons_succ, List.set_cons_zero, Nat.reduceAdd]
          try rw [HWK.out]
          refine wM_val ?ua8 rfl rfl Ext.refl (fun w' hD => ?ha8) (fun pha8 => ?na8)
          case ha8 =>
            obtain ⟨d1, e0, e1, f0, f1⟩ := FX.out w' hD.1
            go_simp; rfl
          simp only [Act.put, List.setIfInBounds_toArray, List.set_cons_succ, List.set_cons_zero, Nat.reduceAdd]
          refine wM_val ?ua9 rfl rfl Ext.refl (fun w' hD => ?ha9) (fun pha9 => ?na9)
          case ha9 =>
            obtain ⟨d1, e0, e1, f0, f1⟩ := FX.out w' hD.1
            go_simp; rfl
          simp only [Act.put, List.setIfInBounds_toArray, List.set_cons_succ, List.set_cons_zero, Nat.reduceAdd]
          refine wM_val ?ua10 rfl rfl Ext.refl (fun w' hD => ?ha10) (fun pha10 => ?na10)
          case ha10 =>
            obtain ⟨d1, e0, e1, f0, f1⟩ := FX.out w' hD.1
            go_simp; rfl
          simp only [Act.put, List.setIfInBounds_toArray, List.set_cons_succ, List.set_cons_zero, Nat.reduceAdd]
          refine wM_val ?ua11 rfl rfl Ext.refl (fun w' hD => ?ha11) (fun pha11 => ?na11)
          case ha11 =>
            obtain ⟨d1, e0, e1, f0, f1⟩ := FX.out w' hD.1
            go_simp; rfl
          simp only [Act.put, List.setIfInBounds_toArray, List.set_cons_succ, List.set_cons_zero, Nat.reduceAdd]
          refine wM_val ?ua12 rfl rfl Ext.refl (fun w' hD => ?ha12) (fun pha12 => ?na12)
          case ha12 =>
            obtain ⟨d1, e0, e1, f0, f1⟩ := FX.out w' hD.1
            go_simp; rfl
          simp only [Act.put, List.setIfInBounds_toArray, List.set_cons_succ, List.set_cons_zero, Nat.reduceAdd]
          refine wM_val ?ua13 rfl rfl Ext.refl (fun w' hD => ?ha13) (fun pha13 => ?na13)
          case ha13 =>
            obtain ⟨d1, e0, e1, f0, f1⟩ := FX.out w' hD.1
            go_simp; rfl
          simp only [Act.put, List.setIfInBounds_toArray, List.set_cons_succ, List.set_cons_zero, Nat.reduceAdd]
          refine wM_op _ rfl rfl (opens_call ?fa14 ?ga14 (fun w' hD => ?ha14) (fun w' hD => ?ca14)) (fun v14 hv14 => ?na14)
          case ha14 => go_simp; constructor <;> rfl
          case ca14 =>
            refine (above_any x y w' HX.out HY.out).mono ?_
            rintro e w2 ⟨rfl, hb⟩
            exact ⟨_, rfl, hb, rfl⟩
          obtain ⟨_, -, -, rfl⟩ := hv14
          simp only [Act.put, List.setIfInBounds_toArray, List.set_cons_succ, List.set_cons_zero, Nat.reduceAdd]
          try rw [HB.out]
          refine wM_val ?ua15 rfl rfl Ext.refl (fun w' hD => ?ha15) (fun pha15 => ?na15)
          case ha15 =>
            obtain ⟨d1, e0, e1, f0, f1⟩ := FX.out w' hD.1
            go_simp; rfl
          simp only [Act.put, List.setIfInBounds_toArray, List.set_cons_succ, List.set_cons_zero, Nat.reduceAdd]
          refine wM_val ?ua16 rfl rfl Ext.refl (fun w' hD => ?ha16) (fun pha16 => ?na16)
          case ha16 =>
            obtain ⟨d1, e0, e1, f0, f1⟩ := FX.out w' hD.1
            go_simp; rfl
          simp only [Act.put, List.setIfInBounds_toArray, List.set_cons_succ, List.set_cons_zero, Nat.reduceAdd]
          refine wM_skip rfl ?_
          simp only [Act.put, List.setIfInBounds_toArray, List.set_cons_succ, List.set_cons_zero, Nat.reduceAdd]
          refine wM_skip rfl ?_
          simp only [Act.put, List.setIfInBounds_toArray, List.set_cons_succ, List.set_cons_zero, Nat.reduceAdd]
          refine wM_skip rfl ?_
          simp only [Act.put, List.setIfInBounds_toArray, List.set_cons_succ, List.set_cons_zero, Nat.reduceAdd]
          refine wM_skip rfl ?_
          simp only [Act.put, List.setIfInBounds_toArray, List.set_cons_succ, List.set_cons_zero, Nat.reduceAdd]
          refine wM_skip rfl ?_
          simp only [Act.put, List.setIfInBounds_toArray, List.set_cons_succ, List.set_cons_zero, Nat.reduceAdd]
          refine wM_skip rfl ?_
          simp only [Act.put, List.setIfInBounds_toArray, List.set_cons_succ, List.set_cons_zero, Nat.reduceAdd]
          refine wM_skip rfl ?_
          simp only [Act.put, List.setIfInBounds_toArray, List.set_cons_succ, List.set_cons_zero, Nat.reduceAdd]
          refine wM_skip rfl ?_
          simp only [Act.put, List.setIfInBounds_toArray, List.set_cons_succ, List.set_cons_zero, Nat.reduceAdd]
          refine wM_skip rfl ?_
          simp only [Act.put, List.setIfInBounds_toArray, List.set_cons_succ, List.set_cons_zero, Nat.reduceAdd]
          refine wM_skip rfl ?_
          simp only [Act.put, List.setIfInBounds_toArray, List.set_cons_succ, List.set_cons_zero, Nat.reduceAdd]
          refine wM_skip rfl ?_
          simp only [Act.put, List.setIfInBounds_toArray, List.set_cons_succ, List.set_cons_zero, Nat.reduceAdd]
          refine wM_skip rfl ?_
          simp only [Act.put, List.setIfInBounds_toArray, List.set_cons_succ, List.set_cons_zero, Nat.reduceAdd]
          try rw [HWK.out]
          refine wM_skip rfl ?_
          simp only [Act.put, List.setIfInBounds_toArray, List.set_cons_succ, List.set_cons_zero, Nat.reduceAdd]
          refine wM_skip rfl ?_
          simp only [Act.put, List.setIfInBounds_toArray, List.set_cons_succ, List.set_cons_zero, Nat.reduceAdd]
          refine wM_skip rfl ?_
          simp only [Act.put, List.setIfInBounds_toArray, List.set_cons_succ, List.set_cons_zero, Nat.reduceAdd]
          refine wM_skip rfl ?_
          simp only [Act.put, List.setIfInBounds_toArray, List.set_cons_succ, List.set_cons_zero, Nat.reduceAdd]
          refine wM_val ?ua33 rfl rfl Ext.refl (fun w' hD => ?ha33) (fun pha33 => ?na33)
          case ha33 =>
            obtain ⟨d1, e0, e1, f0, f1⟩ := FX.out w' hD.1
            go_simp; rfl
          simp only [Act.put, List.setIfInBounds_toArray, List.set_cons_succ, List.set_cons_zero, Nat.reduceAdd]
          refine wM_nil ?_
          intro w9 hw9 hF9
          clear hF9
          have HF : Hid (F = false) := HBAD.out (k + 1) (by omega) (by omega) HS.out
          clear HBAD HGO HS
          go_wp2
          go_ret
          exact ⟨by rw [HF.out]; rfl, hx1.trans (hxr.trans hw9)⟩
        | false =>
          have HB := hid hb
          have HS : Hid (stepT h l (k + 1) = true) := by unfold Hid; rw [HST.out, hP, hQ, hb]; rfl
          clear hb HST hP hQ
          have hm2 : ¬ h.pk < (k : Int) + 1 := by omega
          refine wp_region_shut Ext (fun w' => Ext wr w') (fun
            | 14 => some (fun v _ => v = .bool (abv x y))
            | _ => none) (by kernel_rfl) (by kernel_rfl) (fun _ _ h k => h.trans k) ?hTb (Ext.drew (Ext.refl wr)) ?_
          case hTb =>
            intro i R hR
            match i, hR with
            | 14, hR => cases hR; exact fun _ _ _ h _ => h
          refine wM_val ?ub0 rfl rfl Ext.refl (fun w' hD => ?hb0) (fun phb0 => ?nb0)
          case hb0 =>
            obtain ⟨d1, e0, e1, f0, f1⟩ := FX.out w' hD.1
            go_simp; rfl
          simp only [Act.put, List.setIfInBounds_toArray, List.set_cons_succ, List.set_cons_zero, Nat.reduceAdd]
          refine wM_val ?ub1 rfl rfl Ext.refl (fun w' hD => ?hb1) (fun phb1 => ?nb1)
          case hb1 =>
            obtain ⟨d1, e0, e1, f0, f1⟩ := FX.out w' hD.1
            go_simp; rfl
          simp only [Act.put, List.setIfInBounds_toArray, List.set_cons_succ, List.set_cons_zero, Nat.reduceAdd]
          refine wM_val ?ub2 rfl rfl Ext.refl (fun w' hD => ?hb2) (fun phb2 => ?nb2)
          case hb2 =>
            obtain ⟨d1, e0, e1, f0, f1⟩ := FX.out w' hD.1
            go_simp; rfl
          simp only [Act.put, List.setIfInBounds_toArray, List.set_cons_succ, List.set_cons_zero, Nat.reduceAdd]
          refine wM_val ?ub3 rfl rfl Ext.refl (fun w' hD => ?hb3) (fun phb3 => ?nb3)
          case hb3 =>
            obtain ⟨d1, e0, e1, f0, f1⟩ := FX.out w' hD.1
            go_simp; rfl
          simp only [Act.put, List.setIfInBounds_toArray, List.set_cons_succ, List.set_cons_zero, Nat.reduceAdd]
          refine wM_val ?ub4 rfl rfl Ext.refl (fun w' hD => ?hb4) (fun phb4 => ?nb4)
          case hb4 =>
            obtain ⟨d1, e0, e1, f0, f1⟩ := FX.out w' hD.1
            go_simp; rfl
          simp only [Act.put, List.setIfInBounds_toArray, List.set_cons_succ, List.set_cons_zero, Nat.reduceAdd]
          refine wM_val ?ub5 rfl rfl Ext.refl (fun w' hD => ?hb5) (fun phb5 => ?nb5)
          case hb5 =>
            obtain ⟨d1, e0, e1, f0, f1⟩ := FX.out w' hD.1
            go_simp; rfl
          simp only [Act.put, List.setIfInBounds_toArray, List.set_cons_succ, List.set_cons_zero, Nat.reduceAdd]
          refine wM_val ?ub6 rfl rfl Ext.refl (fun w' hD => ?hb6) (fun phb6 => ?nb6)
          case hb6 =>
            obtain ⟨d1, e0, e1, f0, f1⟩ := FX.out w' hD.1
            go_simp; rfl
          simp only [Act.put, List.setIfInBounds_toArray, List.set_cons_succ, List.set_cons_zero, Nat.reduceAdd]
          refine wM_val ?ub7 rfl rfl Ext.refl (fun w' hD => ?hb7) (fun phb7 => ?nb7)
          case hb7 =>
            obtain ⟨d1, e0, e1, f0, f1⟩ := FX.out w' hD.1
            go_simp; rfl
          simp only [Act.put, List.setIfInBounds_toArray, List.set_cons_succ, List.set_cons_zero, Nat.reduceAdd]
          try rw [HWK.out]
          refine wM_val ?ub8 rfl rfl Ext.refl (fun w' hD => ?hb8) (fun phb8 => ?nb8)
          case hb8 =>
            obtain ⟨d1, e0, e1, f0, f1⟩ := FX.out w' hD.1
            go_simp; rfl
          simp only [Act.put, List.setIfInBounds_toArray, List.set_cons_succ, List.set_cons_zero, Nat.reduceAdd]
          refine wM_val ?ub9 rfl rfl Ext.refl (fun w' hD => ?hb9) (fun phb9 => ?nb9)
          case hb9 =>
            obtain ⟨d1, e0, e1, f0, f1⟩ := FX.out w' hD.1
            go_simp; rfl
          simp only [Act.put, List.setIfInBounds_toArray, List.set_cons_succ, List.set_cons_zero, Nat.reduceAdd]
          refine wM_val ?ub10 rfl rfl Ext.refl (fun w' hD => ?hb10) (fun phb10 => ?nb10)
          case hb10 =>
            obtain ⟨d1, e0, e1, f0, f1⟩ := FX.out w' hD.1
            go_simp; rfl
          simp only [Act.put, List.setIfInBounds_toArray, List.set_cons_succ, List.set_cons_zero, Nat.reduceAdd]
          refine wM_val ?ub11 rfl rfl Ext.refl (fun w' hD => ?hb11) (fun phb11 => ?nb11)
          case hb11 =>
            obtain ⟨d1, e0, e1, f0, f1⟩ := FX.out w' hD.1
            go_simp; rfl
          simp only [Act.put, List.setIfInBounds_toArray, List.set_cons_succ, List.set_cons_zero, Nat.reduceAdd]
          refine wM_val ?ub12 rfl rfl Ext.refl (fun w' hD => ?hb12) (fun phb12 => ?nb12)
          case hb12 =>
            obtain ⟨d1, e0, e1, f0, f1⟩ := FX.out w' hD.1
            go_simp; rfl
          simp only [Act.put, List.setIfInBounds_toArray, List.set_cons_succ, List.set_cons_zero, Nat.reduceAdd]
          refine wM_val ?ub13 rfl rfl Ext.refl (fun w' hD => ?hb13) (fun phb13 => ?nb13)
          case hb13 =>
            obtain ⟨d1, e0, e1, f0, f1⟩ := FX.out w' hD.1
            go_simp; rfl
          simp only [Act.put, List.setIfInBounds_toArray, List.set_cons_succ, List.set_cons_zero, Nat.reduceAdd]
          refine wM_op _ rfl rfl (opens_call ?fb14 ?gb14 (fun w' hD => ?hb14) (fun w' hD => ?cb14)) (fun v14 hv14 => ?nb14)
          case hb14 => go_simp; constructor <;> rfl
          case cb14 =>
            refine (above_any x y w' HX.out HY.out).mono ?_
            rintro e w2 ⟨rfl, hb⟩
            exact ⟨_, rfl, hb, rfl⟩
          obtain ⟨_, -, -, rfl⟩ := hv14
          simp only [Act.put, List.setIfInBounds_toArray, List.set_cons_succ, List.set_cons_zero, Nat.reduceAdd]
          try rw [HB.out]
          refine wM_val ?ub15 rfl rfl Ext.refl (fun w' hD => ?hb15) (fun phb15 => ?nb15)
          case hb15 =>
            obtain ⟨d1, e0, e1, f0, f1⟩ := FX.out w' hD.1
            go_simp; rfl
          simp only [Act.put, List.setIfInBounds_toArray, List.set_cons_succ, List.set_cons_zero, Nat.reduceAdd]
          refine wM_val ?ub16 rfl rfl Ext.refl (fun w' hD => ?hb16) (fun phb16 => ?nb16)
          case hb16 =>
            obtain ⟨d1, e0, e1, f0, f1⟩ := FX.out w' hD.1
            go_simp; rfl
          simp only [Act.put, List.setIfInBounds_toArray, List.set_cons_succ, List.set_cons_zero, Nat.reduceAdd]
          refine wM_val ?ub17 rfl rfl Ext.refl (fun w' hD => ?hb17) (fun phb17 => ?nb17)
          case hb17 =>
            obtain ⟨d1, e0, e1, f0, f1⟩ := FX.out w' hD.1
            go_simp; rfl
          simp only [Act.put, List.setIfInBounds_toArray, List.set_cons_succ, List.set_cons_zero, Nat.reduceAdd]
          refine wM_val ?ub18 rfl rfl Ext.refl (fun w' hD => ?hb18) (fun phb18 => ?nb18)
          case hb18 =>
            obtain ⟨d1, e0, e1, f0, f1⟩ := FX.out w' hD.1
            go_simp; rfl
          simp only [Act.put, List.setIfInBounds_toArray, List.set_cons_succ, List.set_cons_zero, Nat.reduceAdd]
          refine wM_val ?ub19 rfl rfl Ext.refl (fun w' hD => ?hb19) (fun phb19 => ?nb19)
          case hb19 =>
            obtain ⟨d1, e0, e1, f0, f1⟩ := FX.out w' hD.1
            go_simp; rfl
          simp only [Act.put, List.setIfInBounds_toArray, List.set_cons_succ, List.set_cons_zero, Nat.reduceAdd]
          refine wM_val ?ub20 rfl rfl Ext.refl (fun w' hD => ?hb20) (fun phb20 => ?nb20)
          case hb20 =>
            obtain ⟨d1, e0, e1, f0, f1⟩ := FX.out w' hD.1
            go_simp; rfl
          simp only [Act.put, List.setIfInBounds_toArray, List.set_cons_succ, List.set_cons_zero, Nat.reduceAdd]
          refine wM_val ?ub21 rfl rfl Ext.refl (fun w' hD => ?hb21) (fun phb21 => ?nb21)
          case hb21 =>
            obtain ⟨d1, e0, e1, f0, f1⟩ := FX.out w' hD.1
            go_simp; rfl
          simp only [Act.put, List.setIfInBounds_toArray, List.set_cons_succ, List.set_cons_zero, Nat.reduceAdd]
          refine wM_skip rfl ?_
          simp only [Act.put, List.setIfInBounds_toArray, List.set_cons_succ, List.set_cons_zero, Nat.reduceAdd]
          refine wM_skip rfl ?_
          simp only [Act.put, List.setIfInBounds_toArray, List.set_cons_succ, List.set_cons_zero, Nat.reduceAdd]
          refine wM_skip rfl ?_
          simp only [Act.put, List.setIfInBounds_toArray, List.set_cons_succ, List.set_cons_zero, Nat.reduceAdd]
          refine wM_skip rfl ?_
          simp only [Act.put, List.setIfInBounds_toArray, List.set_cons_succ, List.set_cons_zero, Nat.reduceAdd]
          refine wM_skip rfl ?_
          simp only [Act.put, List.setIfInBounds_toArray, List.set_cons_succ, List.set_cons_zero, Nat.reduceAdd]
          refine wM_skip rfl ?_
          simp only [Act.put, List.setIfInBounds_toArray, List.set_cons_succ, List.set_cons_zero, Nat.reduceAdd]
          refine wM_skip rfl ?_
          simp only [Act.put, List.setIfInBounds_toArray, List.set_cons_succ, List.set_cons_zero, Nat.reduceAdd]
          try rw [HWK.out]
          refine wM_skip rfl ?_
          simp only [Act.put, List.setIfInBounds_toArray, List.set_cons_succ, List.set_cons_zero, Nat.reduceAdd]
          refine wM_skip rfl ?_
          simp only [Act.put, List.setIfInBounds_toArray, List.set_cons_succ, List.set_cons_zero, Nat.reduceAdd]
          refine wM_skip rfl ?_
          simp only [Act.put, List.setIfInBounds_toArray, List.set_cons_succ, List.set_cons_zero, Nat.reduceAdd]
          refine wM_val ?ub32 rfl rfl Ext.refl (fun w' hD => ?hb32) (fun phb32 => ?nb32)
          case hb32 =>
            obtain ⟨d1, e0, e1, f0, f1⟩ := FX.out w' hD.1
            go_simp; rfl
          simp only [Act.put, List.setIfInBounds_toArray, List.set_cons_succ, List.set_cons_zero, Nat.reduceAdd]
          refine wM_val ?ub33 rfl rfl Ext.refl (fun w' hD => ?hb33) (fun phb33 => ?nb33)
          case hb33 =>
            obtain ⟨d1, e0, e1, f0, f1⟩ := FX.out w' hD.1
            go_simp; rfl
          simp only [Act.put, List.setIfInBounds_toArray, List.set_cons_succ, List.set_cons_zero, Nat.reduceAdd]
          refine wM_nil ?_
          intro w9 hw9 hF9
          clear hF9
          have HG2 : Hid (∀ j, 1 ≤ j → j ≤ k + 1 → stepT h l j = true) := fun j h1 h2 => by
            rcases Nat.lt_or_ge j (k + 1) with hlt2 | hge
            · exact HGO.out j h1 (by omega)
            · obtain rfl : j = k + 1 := by omega
              exact HS.out
          clear HGO HS
          go_wp2
          go_roundw
          case rel => exact ⟨k + 1, by go_num, by omega, HG2, hxr.trans hw9⟩
          case measure => simp [intOf]; omega
      · have hm2 : h.pk < (k : Int) + 1 := by omega
        have hP : decide (((k + 1 : Nat) : Int) ≤ h.pk) = false := decide_eq_false (by omega)
        have hQ : decide (h.pk < ((k + 1 : Nat) : Int)) = true := decide_eq_true (by omega)
        cases hb : abv y x with
        | true =>
          have HB := hid hb
          have HS : Hid (stepT h l (k + 1) = false) := by unfold Hid; rw [HST.out, hP, hQ, hb]; rfl
          clear hb HST hP hQ
          refine wp_region_shut Ext (fun w' => Ext wr w') (fun
            | 31 => some (fun v _ => v = .bool (abv y x))
            | _ => none) (by kernel_rfl) (by kernel_rfl) (fun _ _ h k => h.trans k) ?hTc (Ext.drew (Ext.refl wr)) ?_
          case hTc =>
            intro i R hR
            match i, hR with
            | 31, hR => cases hR; exact fun _ _ _ h _ => h
          refine wM_val ?uc0 rfl rfl Ext.refl (fun w' hD => ?hc0) (fun phc0 => ?nc0)
          case hc0 =>
            obtain ⟨d1, e0, e1, f0, f1⟩ := FX.out w' hD.1
            go_simp; rfl
          simp only [Act.put, List.setIfInBounds_toArray, List.set_cons_succ, List.set_cons_zero, Nat.reduceAdd]
          refine wM_val ?uc1 rfl rfl Ext.refl (fun w' hD => ?hc1) (fun phc1 => ?nc1)
          case hc1 =>
            obtain ⟨d1, e0, e1, f0, f1⟩ := FX.out w' hD.1
            go_simp; rfl
          simp only [Act.put, List.setIfInBounds_toArray, List.set_cons_succ, List.set_cons_zero, Nat.reduceAdd]
          refine wM_val ?uc2 rfl rfl Ext.refl (fun w' hD => ?hc2) (fun phc2 => ?nc2)
          case hc2 =>
            obtain ⟨d1, e0, e1, f0, f1⟩ := FX.out w' hD.1
            go_simp; rfl
          simp only [Act.put, List.setIfInBounds_toArray, List.set_cons_succ, List.set_cons_zero, Nat.reduceAdd]
          refine wM_val ?uc3 rfl rfl Ext.refl (fun w' hD => ?hc3) (fun phc3 => ?nc3)
          case hc3 =>
            obtain ⟨d1, e0, e1, f0, f1⟩ := FX.out w' hD.1
            go_simp; rfl
          simp only [Act.put, List.setIfInBounds_toArray, List.set_cons_succ, List.set_cons_zero, Nat.reduceAdd]
          refine wM_val ?uc4 rfl rfl Ext.refl (fun w' hD => ?hc4) (fun phc4 => ?nc4)
          case hc4 =>
            obtain ⟨d1, e0, e1, f0, f1⟩ := FX.out w' hD.1
            go_simp; rfl
          simp only [Act.put, List.setIfInBounds_toArray, List.set_cons_succ, List.set_cons_zero, Nat.reduceAdd]
          refine wM_skip rfl ?_
          simp only [Act.put, List.setIfInBounds_toArray, List.set_cons_succ, List.set_cons_zero, Nat.reduceAdd]
          refine wM_skip rfl ?_
          simp only [Act.put, List.setIfInBounds_toArray, List.set_cons_succ, List.set_cons_zero, Nat.reduceAdd]
          refine wM_skip rfl ?_
          simp only [Act.put, List.setIfInBounds_toArray, List.set_cons_succ, List.set_cons_zero, Nat.reduceAdd]
          try rw [HWK.out]
          refine wM_skip rfl ?_
          simp only [Act.put, List.setIfInBounds_toArray, List.set_cons_succ, List.set_cons_zero, Nat.reduceAdd]
          refine wM_skip rfl ?_
          simp only [Act.put, List.setIfInBounds_toArray, List.set_cons_succ, List.set_cons_zero, Nat.reduceAdd]
          refine wM_skip rfl ?_
          simp only [Act.put, List.setIfInBounds_toArray, List.set_cons_succ, List.set_cons_zero, Nat.reduceAdd]
          refine wM_skip rfl ?_
          simp only [Act.put, List.setIfInBounds_toArray, List.set_cons_succ, List.set_cons_zero, Nat.reduceAdd]
          refine wM_skip rfl ?_
          simp only [Act.put, List.setIfInBounds_toArray, List.set_cons_succ, List.set_cons_zero, Nat.reduceAdd]
          refine wM_skip rfl ?_
          simp only [Act.put, List.setIfInBounds_toArray, List.set_cons_succ, List.set_cons_zero, Nat.reduceAdd]
          refine wM_skip rfl ?_
          simp only [Act.put, List.setIfInBounds_toArray, List.set_cons_succ, List.set_cons_zero, Nat.reduceAdd]
          refine wM_val ?uc15 rfl rfl Ext.refl (fun w' hD => ?hc15) (fun phc15 => ?nc15)
          case hc15 =>
            obtain ⟨d1, e0, e1, f0, f1⟩ := FX.out w' hD.1
            go_simp; rfl
          simp only [Act.put, List.setIfInBounds_toArray, List.set_cons_succ, List.set_cons_zero, Nat.reduceAdd]
          refine wM_val ?uc16 rfl rfl Ext.refl (fun w' hD => ?hc16) (fun phc16 => ?nc16)
          case hc16 =>
            obtain ⟨d1, e0, e1, f0, f1⟩ := FX.out w' hD.1
            go_simp; rfl
          simp only [Act.put, List.setIfInBounds_toArray, List.set_cons_succ, List.set_cons_zero, Nat.reduceAdd]
          refine wM_val ?uc17 rfl rfl Ext.refl (fun w' hD => ?hc17) (fun phc17 => ?nc17)
          case hc17 =>
            obtain ⟨d1, e0, e1, f0, f1⟩ := FX.out w' hD.1
            go_simp; rfl
          simp only [Act.put, List.setIfInBounds_toArray, List.set_cons_succ, List.set_cons_zero, Nat.reduceAdd]
          refine wM_val ?uc18 rfl rfl Ext.refl (fun w' hD => ?hc18) (fun phc18 => ?nc18)
          case hc18 =>
            obtain ⟨d1, e0, e1, f0, f1⟩ := FX.out w' hD.1
            go_simp; rfl
          simp only [Act.put, List.setIfInBounds_toArray, List.set_cons_succ, List.set_cons_zero, Nat.reduceAdd]
          refine wM_val ?uc19 rfl rfl Ext.refl (fun w' hD => ?hc19) (fun phc19 => ?nc19)
          case hc19 =>
            obtain ⟨d1, e0, e1, f0, f1⟩ := FX.out w' hD.1
            go_simp; rfl
          simp only [Act.put, List.setIfInBounds_toArray, List.set_cons_succ, List.set_cons_zero, Nat.reduceAdd]
          refine wM_val ?uc20 rfl rfl Ext.refl (fun w' hD => ?hc20) (fun phc20 => ?nc20)
          case hc20 =>
            obtain ⟨d1, e0, e1, f0, f1⟩ := FX.out w' hD.1
            go_simp; rfl
          simp only [Act.put, List.setIfInBounds_toArray, List.set_cons_succ, List.set_cons_zero, Nat.reduceAdd]
          refine wM_val ?uc21 rfl rfl Ext.refl (fun w' hD => ?hc21) (fun phc21 => ?nc21)
          case hc21 =>
            obtain ⟨d1, e0, e1, f0, f1⟩ := FX.out w' hD.1
            go_simp; rfl
          simp only [Act.put, List.setIfInBounds_toArray, List.set_cons_succ, List.set_cons_zero, Nat.reduceAdd]
          refine wM_val ?uc22 rfl rfl Ext.refl (fun w' hD => ?hc22) (fun phc22 => ?nc22)
          case hc22 =>
            obtain ⟨d1, e0, e1, f0, f1⟩ := FX.out w' hD.1
            go_simp; rfl
          simp only [Act.put, List.setIfInBounds_toArray, List.set_cons_succ, List.set_cons_zero, Nat.reduceAdd]
          refine wM_val ?uc23 rfl rfl Ext.refl (fun w' hD => ?hc23) (fun phc23 => ?nc23)
          case hc23 =>
            obtain ⟨d1, e0, e1, f0, f1⟩ := FX.out w' hD.1
            go_simp; rfl
          simp only [Act.put, List.setIfInBounds_toArray, List.set_cons_succ, List.set_cons_zero, Nat.reduceAdd]
          refine wM_val ?uc24 rfl rfl Ext.refl (fun w' hD => ?hc24) (fun phc24 => ?nc24)
          case hc24 =>
            obtain ⟨d1, e0, e1, f0, f1⟩ := FX.out w' hD.1
            go_simp; rfl
          simp only [Act.put, List.setIfInBounds_toArray, List.set_cons_succ, List.set_cons_zero, Nat.reduceAdd]
          refine wM_val ?uc25 rfl rfl Ext.refl (fun w' hD => ?hc25) (fun phc25 => ?nc25)
          case hc25 =>
            obtain ⟨d1, e0, e1, f0, f1⟩ := FX.out w' hD.1
            go_simp; rfl
          simp only [Act.put, List.setIfInBounds_toArray, List.set_cons_succ, List.set_cons_zero, Nat.reduceAdd]
          refine wM_val ?uc26 rfl rfl Ext.refl (fun w' hD => ?hc26) (fun phc26 => ?nc26)
          case hc26 =>
            obtain ⟨d1, e0, e1, f0, f1⟩ := FX.out w' hD.1
            go_simp; rfl
          simp only [Act.put, List.setIfInBounds_toArray, List.set_cons_succ, List.set_cons_zero, Nat.reduceAdd]
          refine wM_val ?uc27 rfl rfl Ext.refl (fun w' hD => ?hc27) (fun phc27 => ?nc27)
          case hc27 =>
            obtain ⟨d1, e0, e1, f0, f1⟩ := FX.out w' hD.1
            go_simp; rfl
          simp only [Act.put, List.setIfInBounds_toArray, List.set_cons_succ, List.set_cons_zero, Nat.reduceAdd]
          refine wM_val ?uc28 rfl rfl Ext.refl (fun w' hD => ?hc28) (fun phc28 => ?nc28)
          case hc28 =>
            obtain ⟨d1, e0, e1, f0, f1⟩ := FX.out w' hD.1
            go_simp; rfl
          simp only [Act.put, List.setIfInBounds_toArray, List.set_cons_succ, List.set_cons_zero, Nat.reduceAdd]
          try rw [HWK.out]
          refine wM_val ?uc29 rfl rfl Ext.refl (fun w' hD => ?hc29) (fun phc29 => ?nc29)
          case hc29 =>
            obtain ⟨d1, e0, e1, f0, f1⟩ := FX.out w' hD.1
            go_simp; rfl
          simp only [Act.put, List.setIfInBounds_toArray, List.set_cons_succ, List.set_cons_zero, Nat.reduceAdd]
          refine wM_val ?uc30 rfl rfl Ext.refl (fun w' hD => ?hc30) (fun phc30 => ?nc30)
          case hc30 =>
            obtain ⟨d1, e0, e1, f0, f1⟩ := FX.out w' hD.1
            go_simp; rfl
          simp only [Act.put, List.setIfInBounds_toArray, List.set_cons_succ, List.set_cons_zero, Nat.reduceAdd]
          refine wM_op _ rfl rfl (opens_call ?fc31 ?gc31 (fun w' hD => ?hc31) (fun w' hD => ?cc31)) (fun v31 hv31 => ?nc31)
          case hc31 => go_simp; constructor <;> rfl
          case cc31 =>
            refine (above_any y x w' HY.out HX.out).mono ?_
            rintro e w2 ⟨rfl, hb⟩
            exact ⟨_, rfl, hb, rfl⟩
          obtain ⟨_, -, -, rfl⟩ := hv31
          simp only [Act.put, List.setIfInBounds_toArray, List.set_cons_succ, List.set_cons_zero, Nat.reduceAdd]
          try rw [HB.out]
          refine wM_val ?uc32 rfl rfl Ext.refl (fun w' hD => ?hc32) (fun phc32 => ?nc32)
          case hc32 =>
            obtain ⟨d1, e0, e1, f0, f1⟩ := FX.out w' hD.1
            go_simp; rfl
          simp only [Act.put, List.setIfInBounds_toArray, List.set_cons_succ, List.set_cons_zero, Nat.reduceAdd]
          refine wM_val ?uc33 rfl rfl Ext.refl (fun w' hD => ?hc33) (fun phc33 => ?nc33)
          case hc33 =>
            obtain ⟨d1, e0, e1, f0, f1⟩ := FX.out w' hD.1
            go_simp; rfl
          simp only [Act.put, List.setIfInBounds_toArray, List.set_cons_succ, List.set_cons_zero, Nat.reduceAdd]
          refine wM_nil ?_
          intro w9 hw9 hF9
          clear hF9
          have HF : Hid (F = false) := HBAD.out (k + 1) (by omega) (by omega) HS.out
          clear HBAD HGO HS
          go_wp2
          go_ret
          exact ⟨by rw [HF.out]; rfl, hx1.trans (hxr.trans hw9)⟩
        | false =>
          have HB := hid hb
          have HS : Hid (stepT h l (k + 1) = true) := by unfold Hid; rw [HST.out, hP, hQ, hb]; rfl
          clear hb HST hP hQ
          refine wp_region_shut Ext (fun w' => Ext wr w') (fun
            | 31 => some (fun v _ => v = .bool (abv y x))
            | _ => none) (by kernel_rfl) (by kernel_rfl) (fun _ _ h k => h.trans k) ?hTd (Ext.drew (Ext.refl wr)) ?_
          case hTd =>
            intro i R hR
            match i, hR with
            | 31, hR => cases hR; exact fun _ _ _ h _ => h
          refine wM_val ?ud0 rfl rfl Ext.refl (fun w' hD => ?hd0) (fun phd0 => ?nd0)
          case hd0 =>
            obtain ⟨d1, e0, e1, f0, f1⟩ := FX.out w' hD.1
            go_simp; rfl
          simp only [Act.put, List.setIfInBounds_toArray, List.set_cons_succ, List.set_cons_zero, Nat.reduceAdd]
          refine wM_val ?ud1 rfl rfl Ext.refl (fun w' hD => ?hd1) (fun phd1 => ?nd1)
          case hd1 =>
            obtain ⟨d1, e0, e1, f0, f1⟩ := FX.out w' hD.1
            go_simp; rfl
          simp only [Act.put, List.setIfInBounds_toArray, List.set_cons_succ, List.set_cons_zero, Nat.reduceAdd]
          refine wM_val ?ud2 rfl rfl Ext.refl (fun w' hD => ?hd2) (fun phd2 => ?nd2)
          case hd2 =>
            obtain ⟨d1, e0, e1, f0, f1⟩ := FX.out w' hD.1
            go_simp; rfl
          simp only [Act.put, List.setIfInBounds_toArray, List.set_cons_succ, List.set_cons_zero, Nat.reduceAdd]
          refine wM_val ?ud3 rfl rfl Ext.refl (fun w' hD => ?hd3) (fun phd3 => ?nd3)
          case hd3 =>
            obtain ⟨d1, e0, e1, f0, f1⟩ := FX.out w' hD.1
            go_simp; rfl
          simp only [Act.put, List.setIfInBounds_toArray, List.set_cons_succ, List.set_cons_zero, Nat.reduceAdd]
          refine wM_val ?ud4 rfl rfl Ext.refl (fun w' hD => ?hd4) (fun phd4 => ?nd4)
          case hd4 =>
            obtain ⟨d1, e0, e1, f0, f1⟩ := FX.out w' hD.1
            go_simp; rfl
          simp only [Act.put, List.setIfInBounds_toArray, List.set_cons_succ, List.set_cons_zero, Nat.reduceAdd]
          refine wM_skip rfl ?_
          simp only [Act.put, List.setIfInBounds_toArray, List.set_cons_succ, List.set_cons_zero, Nat.reduceAdd]
          refine wM_skip rfl ?_
          simp only [Act.put, List.setIfInBounds_toArray, List.set_cons_succ, List.set_cons_zero, Nat.reduceAdd]
          refine wM_skip rfl ?_
          simp only [Act.put, List.setIfInBounds_toArray, List.set_cons_succ, List.set_cons_zero, Nat.reduceAdd]
          try rw [HWK.out]
          refine wM_skip rfl ?_
          simp only [Act.put, List.setIfInBounds_toArray, List.set_cons_succ, List.set_cons_zero, Nat.reduceAdd]
          refine wM_skip rfl ?_
          simp only [Act.put, List.setIfInBounds_toArray, List.set_cons_succ, List.set_cons_zero, Nat.reduceAdd]
          refine wM_skip rfl ?_
          simp only [Act.put, List.setIfInBounds_toArray, List.set_cons_succ, List.set_cons_zero, Nat.reduceAdd]
          refine wM_skip rfl ?_
          simp only [Act.put, List.setIfInBounds_toArray, List.set_cons_succ, List.set_cons_zero, Nat.reduceAdd]
          refine wM_skip rfl ?_
          simp only [Act.put, List.setIfInBounds_toArray, List.set_cons_succ, List.set_cons_zero, Nat.reduceAdd]
          refine wM_skip rfl ?_
          simp only [Act.put, List.setIfInBounds_toArray, List.set_cons_succ, List.set_cons_zero, Nat.reduceAdd]
          refine wM_skip rfl ?_
          simp only [Act.put, List.setIfInBounds_toArray, List.set_cons_succ, List.set_cons_zero, Nat.reduceAdd]
          refine wM_val ?ud15 rfl rfl Ext.refl (fun w' hD => ?hd15) (fun phd15 => ?nd15)
          case hd15 =>
            obtain ⟨d1, e0, e1, f0, f1⟩ := FX.out w' hD.1
            go_simp; rfl
          simp only [Act.put, List.setIfInBounds_toArray, List.set_cons_succ, List.set_cons_zero, Nat.reduceAdd]
          refine wM_val ?ud16 rfl rfl Ext.refl (fun w' hD => ?hd16) (fun phd16 => ?nd16)
          case hd16 =>
            obtain ⟨d1, e0, e1, f0, f1⟩ := FX.out w' hD.1
            go_simp; rfl
          simp only [Act.put, List.setIfInBounds_toArray, List.set_cons_succ, List.set_cons_zero, Nat.reduceAdd]
          refine wM_val ?ud17 rfl rfl Ext.refl (fun w' hD => ?hd17) (fun phd17 => ?nd17)
          case hd17 =>
            obtain ⟨d1, e0, e1, f0, f1⟩ := FX.out w' hD.1
            go_simp; rfl
          simp only [Act.put, List.setIfInBounds_toArray, List.set_cons_succ, List.set_cons_zero, Nat.reduceAdd]
          refine wM_val ?ud18 rfl rfl Ext.refl (fun w' hD => ?hd18) (fun phd18 => ?nd18)
          case hd18 =>
            obtain ⟨d1, e0, e1, f0, f1⟩ := FX.out w' hD.1
            go_simp; rfl
          simp only [Act.put, List.setIfInBounds_toArray, List.set_cons_succ, List.set_cons_zero, Nat.reduceAdd]
          refine wM_val ?ud19 rfl rfl Ext.refl (fun w' hD => ?hd19) (fun phd19 => ?nd19)
          case hd19 =>
            obtain ⟨d1, e0, e1, f0, f1⟩ := FX.out w' hD.1
            go_simp; rfl
          simp only [Act.put, List.setIfInBounds_toArray, List.set_cons_succ, List.set_cons_zero, Nat.reduceAdd]
          refine wM_val ?ud20 rfl rfl Ext.refl (fun w' hD => ?hd20) (fun phd20 => ?nd20)
          case hd20 =>
            obtain ⟨d1, e0, e1, f0, f1⟩ := FX.out w' hD.1
            go_simp; rfl
          simp only [Act.put, List.setIfInBounds_toArray, List.set_cons_succ, List.set_cons_zero, Nat.reduceAdd]
          refine wM_val ?ud21 rfl rfl Ext.refl (fun w' hD => ?hd21) (fun phd21 => ?nd21)
          case hd21 =>
            obtain ⟨d1, e0, e1, f0, f1⟩ := FX.out w' hD.1
            go_simp; rfl
          simp only [Act.put, List.setIfInBounds_toArray, List.set_cons_succ, List.set_cons_zero, Nat.reduceAdd]
          refine wM_val ?ud22 rfl rfl Ext.refl (fun w' hD => ?hd22) (fun phd22 => ?nd22)
          case hd22 =>
            obtain ⟨d1, e0, e1, f0, f1⟩ := FX.out w' hD.1
            go_simp; rfl
          simp only [Act.put, List.setIfInBounds_toArray, List.set_cons_succ, List.set_cons_zero, Nat.reduceAdd]
          refine wM_val ?ud23 rfl rfl Ext.refl (fun w' hD => ?hd23) (fun phd23 => ?nd23)
          case hd23 =>
            obtain ⟨d1, e0, e1, f0, f1⟩ := FX.out w' hD.1
            go_simp; rfl
          simp only [Act.put, List.setIfInBounds_toArray, List.set_cons_succ, List.set_cons_zero, Nat.reduceAdd]
          refine wM_val ?ud24 rfl rfl Ext.refl (fun w' hD => ?hd24) (fun phd24 => ?nd24)
          case hd24 =>
            obtain ⟨d1, e0, e1, f0, f1⟩ := FX.out w' hD.1
            go_simp; rfl
          simp only [Act.put, List.setIfInBounds_toArray, List.set_cons_succ, List.set_cons_zero, Nat.reduceAdd]
          refine wM_val ?ud25 rfl rfl Ext.refl (fun w' hD => ?hd25) (fun phd25 => ?nd25)
          case hd25 =>
            obtain ⟨d1, e0, e1, f0, f1⟩ := FX.out w' hD.1
            go_simp; rfl
          simp only [Act.put, List.setIfInBounds_toArray, List.set_cons_succ, List.set_cons_zero, Nat.reduceAdd]
          refine wM_val ?ud26 rfl rfl Ext.refl (fun w' hD => ?hd26) (fun phd26 => ?nd26)
          case hd26 =>
            obtain ⟨d1, e0, e1, f0, f1⟩ := FX.out w' hD.1
            go_simp; rfl
          simp only [Act.put, List.setIfInBounds_toArray, List.set_cons_succ, List.set_cons_zero, Nat.reduceAdd]
          refine wM_val ?ud27 rfl rfl Ext.refl (fun w' hD => ?hd27) (fun phd27 => ?nd27)
          case hd27 =>
            obtain ⟨d1, e0, e1, f0, f1⟩ := FX.out w' hD.1
            go_simp; rfl
          simp only [Act.put, List.setIfInBounds_toArray, List.set_cons_succ, List.set_cons_zero, Nat.reduceAdd]
          refine wM_val ?ud28 rfl rfl Ext.refl (fun w' hD => ?hd28) (fun phd28 => ?nd28)
          case hd28 =>
            obtain ⟨d1, e0, e1, f0, f1⟩ := FX.out w' hD.1
            go_simp; rfl
          simp only [Act.put, List.setIfInBounds_toArray, List.set_cons_succ, List.set_cons_zero, Nat.reduceAdd]
          try rw [HWK.out]
          refine wM_val ?ud29 rfl rfl Ext.refl (fun w' hD => ?hd29) (fun phd29 => ?nd29)
          case hd29 =>
            obtain ⟨d1, e0, e1, f0, f1⟩ := FX.out w' hD.1
            go_simp; rfl
          simp only [Act.put, List.setIfInBounds_toArray, List.set_cons_succ, List.set_cons_zero, Nat.reduceAdd]
          refine wM_val ?ud30 rfl rfl Ext.refl (fun w' hD => ?hd30) (fun phd30 => ?nd30)
          case hd30 =>
            obtain ⟨d1, e0, e1, f0, f1⟩ := FX.out w' hD.1
            go_simp; rfl
          simp only [Act.put, List.setIfInBounds_toArray, List.set_cons_succ, List.set_cons_zero, Nat.reduceAdd]
          refine wM_op _ rfl rfl (opens_call ?fd31 ?gd31 (fun w' hD => ?hd31) (fun w' hD => ?cd31)) (fun v31 hv31 => ?nd31)
          case hd31 => go_simp; constructor <;> rfl
          case cd31 =>
            refine (above_any y x w' HY.out HX.out).mono ?_
            rintro e w2 ⟨rfl, hb⟩
            exact ⟨_, rfl, hb, rfl⟩
          obtain ⟨_, -, -, rfl⟩ := hv31
          simp only [Act.put, List.setIfInBounds_toArray, List.set_cons_succ, List.set_cons_zero, Nat.reduceAdd]
          try rw [HB.out]
          refine wM_val ?ud32 rfl rfl Ext.refl (fun w' hD => ?hd32) (fun phd32 => ?nd32)
          case hd32 =>
            obtain ⟨d1, e0, e1, f0, f1⟩ := FX.out w' hD.1
            go_simp; rfl
          simp only [Act.put, List.setIfInBounds_toArray, List.set_cons_succ, List.set_cons_zero, Nat.reduceAdd]
          refine wM_val ?ud33 rfl rfl Ext.refl (fun w' hD => ?hd33) (fun phd33 => ?nd33)
          case hd33 =>
            obtain ⟨d1, e0, e1, f0, f1⟩ := FX.out w' hD.1
            go_simp; rfl
          simp only [Act.put, List.setIfInBounds_toArray, List.set_cons_succ, List.set_cons_zero, Nat.reduceAdd]
          refine wM_nil ?_
          intro w9 hw9 hF9
          clear hF9
          have HG2 : Hid (∀ j, 1 ≤ j → j ≤ k + 1 → stepT h l j = true) := fun j h1 h2 => by
            rcases Nat.lt_or_ge j (k + 1) with hlt2 | hge
            · exact HGO.out j h1 (by omega)
            · obtain rfl : j = k + 1 := by omega
              exact HS.out
          clear HGO HS
          go_wp2
          go_roundw
          case rel => exact ⟨k + 1, by go_num, by omega, HG2, hxr.trans hw9⟩
          case measure => simp [intOf]; omega
    · have hlt' : ¬ (k : Int) + 1 < (N : Int) := by omega
      have HF : Hid (F = true) := HALL.out fun j h1 h2 => HGO.out j h1 (by omega)
      clear HBAD HGO HALL
      go_wp2
      go_ret
      exact ⟨by rw [HF.out]; rfl, hx1.trans hxr⟩
end Go.Proofs.YtjnobdcbbboeeaaGreat
