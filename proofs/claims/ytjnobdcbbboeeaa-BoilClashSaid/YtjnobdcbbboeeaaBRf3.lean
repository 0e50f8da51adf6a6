/- The walks of the reference's Ratios, Truth, None and Agree of layer 8. Printed by my gen_brf3.py. -/
import Derived.Test.YtjnobdcbbboeeaaBRf2
import Derived.Test.YtjnobdcbbboeeaaBBow
namespace Go.Proofs.Ytjnobdcbbboeeaa
open Go Go.RowKit Go.Shelf
set_option linter.unusedVariables false
set_option linter.unusedSimpArgs false

set_option maxRecDepth 100000 in
set_option maxHeartbeats 4000000 in
theorem refratios_any (v : Value) (h : Hs) (w : World) (hr : HsR w v h) (hs : h.sized) (Ar : Option Addr) (cr : Nat) (l : List Rt) (hA : Prs w Ar l) (hl : l.length ≤ 1000000) :
    Calls Try.prog 46 #[v, .slice Ar l.length cr] w fun e w' => e = .returned (.int .i64 (ratE h l)) ∧ Ext w w' := by
  obtain ⟨A, c, rfl, hrw, hcap⟩ := hr
  obtain ⟨W0, hW0⟩ : ∃ W0, w.alloc (.cells #[.int .i64 h.mo, .int .i64 h.pk, .slice A h.ws.length c] 75) = W0 := ⟨_, rfl⟩
  have hx0 : Ext w W0 := by rw [← hW0]; exact Ext.alloc (Ext.refl w) _
  have b0 : W0.heap[w.heap.size]? = some (.cells #[.int .i64 h.mo, .int .i64 h.pk, .slice A h.ws.length c] 75 (0, 0)) := by rw [← hW0]; exact heap_alloc_new w _
  have FH : Hid (∀ w', Ext W0 w' → w'.cell? ⟨w.heap.size, 0, none⟩ = some (.int .i64 h.mo) ∧ w'.cell? ⟨w.heap.size, 1, none⟩ = some (.int .i64 h.pk) ∧ w'.cell? ⟨w.heap.size, 2, none⟩ = some (.slice A h.ws.length c)) := fun w' hx => by
    obtain ⟨q0, q1, q2, -⟩ := rhouse_cells b0
    exact ⟨hx.cell q0, hx.cell q1, hx.cell q2⟩
  have HRW : Hid (∀ w', Ext W0 w' → Wgs w' A h.ws) := fun w' hx => Rows.ext hrw (hx0.trans hx)
  have HW0 := hid hW0
  have HCK := hid (refcheck_any (hval h A c) h W0 ⟨A, c, rfl, HRW.out W0 (Ext.refl _), hcap⟩ hs)
  obtain ⟨T, hT⟩ : ∃ T, checkH h = T := ⟨_, rfl⟩
  obtain ⟨R, hR⟩ : ∃ R, ratE h l = R := ⟨_, rfl⟩
  rw [hR]
  have HC : Hid (R = if T ≠ 0 then T else if (l.length : Int) ≠ h.mo then 2 else if l.all rtOK = false then 3 else 0) := by unfold Hid; rw [← hR, ← hT]; rfl
  rw [hT] at HCK
  have HA : Hid (∀ w', Ext W0 w' → Prs w' Ar l) := fun w' hx => Rows.ext hA (hx0.trans hx)
  clear hT hR hrw b0 hW0 hA hs
  unfold hval at HCK
  unfold hval
  go_enter Try.func46, Try.ntmps46
  go_upto_region 1 with fail
  rw [HW0.out]
  clear HW0
  obtain ⟨c0, c1, c2⟩ := FH.out W0 (Ext.refl _)
  go_wp2_with fail
  refine HCK.out.mono ?_
  rintro e w2 ⟨rfl, h2⟩
  clear HCK c0 c1 c2
  by_cases h0 : T = 0
  case neg =>
    have h0b : (T != 0) = true := by simpa using h0
    have HN2 : Hid (R = T) := by unfold Hid; rw [HC.out, if_pos h0]
    go_wp2
    go_ret
    exact ⟨ret_of (int_of HN2.out.symm), hx0.trans h2⟩
  subst h0
  obtain ⟨c0, c1, c2⟩ := FH.out w2 h2
  by_cases hlm : (l.length : Int) = h.mo
  case neg =>
    have h0c : ((l.length : Int) != h.mo) = true := by simpa using hlm
    have HN2 : Hid (R = 2) := by unfold Hid; rw [HC.out, if_neg (by simp), if_pos hlm]
    go_wp2
    go_ret
    exact ⟨ret_of (int_of HN2.out.symm), hx0.trans h2⟩
  have h0c : ((l.length : Int) != h.mo) = false := by simpa using hlm
  have HC2 : Hid (R = if l.all rtOK = false then 3 else 0) := by unfold Hid; rw [HC.out, if_neg (by simp), if_neg (by simp [hlm])]
  clear hlm HC
  go_wp2
  clear c0 c1 c2 h0c
  go_loopw [6] (fun i wr => ∃ k : Nat, k ≤ l.length ∧ i = .int .i64 (k : Int) ∧ Ext W0 wr ∧ Hid ((l.take k).all rtOK = true)) (fun i _ => l.length - (intOf i).toNat)
  case atStart => exact ⟨0, Nat.zero_le _, rfl, h2, rfl⟩
  case round =>
    obtain ⟨k, hk, rfl, hx, HQ⟩ := hrel
    by_cases hlt : k < l.length
    · have hlt' : (k : Int) < (l.length : Int) := by omega
      obtain ⟨x, hxk⟩ := get_of_lt l k hlt
      have HX := hid hxk
      obtain ⟨b, off, rfl, g0, g1⟩ := prs_get (HA.out wr hx) hxk
      clear hxk
      go_wp2_with fail
      refine (off_any _ _ _ _).mono ?_
      rintro e w1 ⟨rfl, rfl⟩
      cases q0 : inB x.1 1 1000000
      · have HN2 : Hid (R = 3) := by unfold Hid; rw [HC2.out, if_pos (hall_false HX.out (by unfold rtOK; rw [q0]; rfl))]
        go_wp2
        go_ret
        exact ⟨ret_of (int_of HN2.out.symm), hx0.trans hx⟩
      · go_wp2_with fail
        refine (off_any _ _ _ _).mono ?_
        rintro e w1 ⟨rfl, rfl⟩
        cases q1 : inB x.2 1 1000000
        · have HN2 : Hid (R = 3) := by unfold Hid; rw [HC2.out, if_pos (hall_false HX.out (by unfold rtOK; rw [q1, Bool.and_false]))]
          go_wp2
          go_ret
          exact ⟨ret_of (int_of HN2.out.symm), hx0.trans hx⟩
        · have HQ2 : Hid ((l.take (k + 1)).all rtOK = true) := hall_take HQ.out HX.out (by unfold rtOK; rw [q0, q1]; rfl)
          clear HQ HX
          go_wp2
          go_roundw
          case rel => exact ⟨k + 1, by omega, by go_num, hx, HQ2⟩
          case measure => simp [intOf]; omega
    · have hlt' : ¬ (k : Int) < (l.length : Int) := by omega
      have HN2 : Hid (R = 0) := by unfold Hid; rw [HC2.out, hall_full HQ.out (by omega)]; rfl
      go_wp2
      go_ret
      exact ⟨ret_of (int_of HN2.out.symm), hx0.trans hx⟩
set_option maxRecDepth 100000 in
set_option maxHeartbeats 4000000 in
theorem reftruth_any (v : Value) (h : Hs) (w : World) (hr : HsR w v h) (hmo : 1 ≤ h.mo ∧ h.mo ≤ 12) (Ar : Option Addr) (cr : Nat) (l : List Rt) (hA : Prs w Ar l) (hlm : (l.length : Int) = h.mo) (hsm : ∀ q ∈ l, Rsm q) :
    Calls Try.prog 47 #[v, .slice Ar l.length cr] w fun e w' => e = .returned (.bool (truthR h l h.mo.toNat)) ∧ Ext w w' := by
  obtain ⟨A, c, rfl, hrw, hcap⟩ := hr
  obtain ⟨W0, hW0⟩ : ∃ W0, w.alloc (.cells #[.int .i64 h.mo, .int .i64 h.pk, .slice A h.ws.length c] 75) = W0 := ⟨_, rfl⟩
  have hx0 : Ext w W0 := by rw [← hW0]; exact Ext.alloc (Ext.refl w) _
  have b0 : W0.heap[w.heap.size]? = some (.cells #[.int .i64 h.mo, .int .i64 h.pk, .slice A h.ws.length c] 75 (0, 0)) := by rw [← hW0]; exact heap_alloc_new w _
  have FH : Hid (∀ w', Ext W0 w' → w'.cell? ⟨w.heap.size, 0, none⟩ = some (.int .i64 h.mo) ∧ w'.cell? ⟨w.heap.size, 1, none⟩ = some (.int .i64 h.pk) ∧ w'.cell? ⟨w.heap.size, 2, none⟩ = some (.slice A h.ws.length c)) := fun w' hx => by
    obtain ⟨q0, q1, q2, -⟩ := rhouse_cells b0
    exact ⟨hx.cell q0, hx.cell q1, hx.cell q2⟩
  have HRW : Hid (∀ w', Ext W0 w' → Wgs w' A h.ws) := fun w' hx => Rows.ext hrw (hx0.trans hx)
  have HW0 := hid hW0
  obtain ⟨M, hM⟩ : ∃ M : Nat, h.mo = M := ⟨h.mo.toNat, by omega⟩
  have HMM := hid hM
  have HM : Hid (h.mo.toNat = M) := by unfold Hid; omega
  have HLM : Hid (l.length = M) := by unfold Hid; omega
  have HA : Hid (∀ w', Ext W0 w' → Prs w' Ar l) := fun w' hx => Rows.ext hA (hx0.trans hx)
  have HU : Hid (∀ (a b : Nat) w', Ext W0 w' → _) := fun a b w' hx => refunder_any (hval h A c) h (a : Int) (b : Int) w' ⟨A, c, rfl, HRW.out w' hx, hcap⟩
  have HSM := hid hsm
  obtain ⟨R, hR⟩ : ∃ R, truthR h l h.mo.toNat = R := ⟨_, rfl⟩
  have HR := hid hR
  rw [hR]
  rw [HM.out] at HR
  unfold hval at HU
  rw [hM] at hW0 HW0 FH HU hlm
  have hM6 : M ≤ 1000 := by omega
  clear hR hM hrw b0 hW0 hA hsm hmo hlm HRW
  unfold hval
  rw [HMM.out]
  go_enter Try.func47, Try.ntmps47
  go_upto_region 1 with fail
  rw [HW0.out]
  clear HW0
  go_wp2
  go_loopw [5] (fun i wr => ∃ a : Nat, a ≤ M ∧ i = .int .i64 (a : Int) ∧ Ext W0 wr ∧ Hid (truthR h l a = true)) (fun i _ => M - (intOf i).toNat)
  case atStart => exact ⟨0, Nat.zero_le _, rfl, Ext.refl _, rfl⟩
  case round =>
    obtain ⟨a, ha, rfl, hx, HQA⟩ := hrel
    obtain ⟨c0, c1, c2⟩ := FH.out wr hx
    by_cases hla : a < M
    · have hla' : (a : Int) < (M : Int) := by omega
      obtain ⟨wo, rfl⟩ : ∃ wo : World, wo = wr := ⟨_, rfl⟩
      go_wp2
      clear c0 c1 c2
      go_loopw [6] (fun i wr => ∃ b : Nat, b ≤ M ∧ i = .int .i64 (b : Int) ∧ Ext W0 wr ∧ Hid (truthRow h l a b = true)) (fun i _ => M - (intOf i).toNat)
      case atStart => exact ⟨0, Nat.zero_le _, rfl, hx, rfl⟩
      case round =>
        obtain ⟨b, hb, rfl, hx, HQB⟩ := hrel
        obtain ⟨c0, c1, c2⟩ := FH.out wr hx
        by_cases hlb : b < M
        · have hlb' : (b : Int) < (M : Int) := by omega
          obtain ⟨x, hxa⟩ := get_of_lt l a (by rw [HLM.out]; exact hla)
          obtain ⟨y, hyb⟩ := get_of_lt l b (by rw [HLM.out]; exact hlb)
          obtain ⟨b1, o1, e1, k0, k1⟩ := prs_get (HA.out wr hx) hxa
          obtain ⟨b2, o2, e2, g0, g1⟩ := prs_get (HA.out wr hx) hyb
          subst e1
          cases e2
          have FX : Hid (∀ w', Ext wr w' → (w'.cell? ⟨w.heap.size, 0, none⟩ = some (.int .i64 (M : Int)) ∧ w'.cell? ⟨w.heap.size, 1, none⟩ = some (.int .i64 h.pk) ∧ w'.cell? ⟨w.heap.size, 2, none⟩ = some (.slice A h.ws.length c)) ∧ (w'.cell? ⟨b1, o1 + b * 2, none⟩ = some (.int .i64 y.1) ∧ w'.cell? ⟨b1, o1 + b * 2 + 1, none⟩ = some (.int .i64 y.2)) ∧ w'.cell? ⟨b1, o1 + a * 2, none⟩ = some (.int .i64 x.1) ∧ w'.cell? ⟨b1, o1 + a * 2 + 1, none⟩ = some (.int .i64 x.2)) := fun w' hw =>
            ⟨FH.out w' (hx.trans hw), ⟨hw.cell g0, hw.cell g1⟩, hw.cell k0, hw.cell k1⟩
          have hxe : l.getD a (0, 0) = x := by rw [List.getD_eq_getElem?_getD, hxa]; rfl
          have hye : l.getD b (0, 0) = y := by rw [List.getD_eq_getElem?_getD, hyb]; rfl
          have KU : Hid (∀ w', Ext wr w' → _) := fun w' hw => HU.out a b w' (hx.trans hw)
          have KB := hid fun w' => less_any y x w' (HSM.out y (List.mem_of_getElem? hyb)) (HSM.out x (List.mem_of_getElem? hxa))
          have HUB : Hid ((!(undH h (a : Int) (b : Int) && abv (l.getD a (0, 0)) (l.getD b (0, 0)))) = !(undH h (a : Int) (b : Int) && abv x y)) := by unfold Hid; rw [hxe, hye]
          obtain ⟨U, hU⟩ : ∃ U, undH h (a : Int) (b : Int) = U := ⟨_, rfl⟩
          obtain ⟨B, hB⟩ : ∃ B, abv x y = B := ⟨_, rfl⟩
          rw [hU] at KU HUB
          rw [hB] at KB HUB
          unfold rval at KB
          have hla2 : (a : Int) < (l.length : Int) := by rw [HLM.out]; omega
          have hlb2 : (b : Int) < (l.length : Int) := by rw [HLM.out]; omega
          have HUI := hid hU
          go_upto_region 7 with fail
          clear hU hB hxe hye hxa hyb k0 k1 g0 g1 c0 c1 c2
          cases U with
          | false =>
            refine wp_region_shut Ext (fun w' => Ext wr w') (fun
              | 3 => some (fun v _ => v = .bool false)
              | _ => none) (by kernel_rfl) (by kernel_rfl) (fun _ _ h k => h.trans k) ?hTa (Ext.drew (Ext.refl wr)) ?_
            case hTa =>
              intro i R hR
              match i, hR with
              | 3, hR => cases hR; exact fun _ _ _ h _ => h
            refine wM_val ?ua0 rfl rfl Ext.refl (fun w' hD => ?ha0) (fun pha0 => ?na0)
            case ha0 =>
              obtain ⟨⟨c0, c1, c2⟩, ⟨g0, g1⟩, k0, k1⟩ := FX.out w' hD.1
              go_simp; rfl
            simp only [Act.put, List.setIfInBounds_toArray, List.set_cons_succ, List.set_cons_zero, Nat.reduceAdd]
            refine wM_val ?ua1 rfl rfl Ext.refl (fun w' hD => ?ha1) (fun pha1 => ?na1)
            case ha1 =>
              obtain ⟨⟨c0, c1, c2⟩, ⟨g0, g1⟩, k0, k1⟩ := FX.out w' hD.1
              go_simp; rfl
            simp only [Act.put, List.setIfInBounds_toArray, List.set_cons_succ, List.set_cons_zero, Nat.reduceAdd]
            refine wM_val ?ua2 rfl rfl Ext.refl (fun w' hD => ?ha2) (fun pha2 => ?na2)
            case ha2 =>
              obtain ⟨⟨c0, c1, c2⟩, ⟨g0, g1⟩, k0, k1⟩ := FX.out w' hD.1
              go_simp; rfl
            simp only [Act.put, List.setIfInBounds_toArray, List.set_cons_succ, List.set_cons_zero, Nat.reduceAdd]
            refine wM_op _ rfl rfl (opens_call ?fa3 ?ga3 (fun w' hD => ?ha3) (fun w' hD => ?ca3)) (fun v3 hv3 => ?na3)
            case ha3 => go_simp; constructor <;> rfl
            case ca3 =>
              refine (KU.out w' hD.1).mono ?_
              rintro e w2 ⟨rfl, hb⟩
              exact ⟨_, rfl, hb, rfl⟩
            obtain ⟨_, -, -, rfl⟩ := hv3
            simp only [Act.put, List.setIfInBounds_toArray, List.set_cons_succ, List.set_cons_zero, Nat.reduceAdd]
            refine wM_val ?ua4 rfl rfl Ext.refl (fun w' hD => ?ha4) (fun pha4 => ?na4)
            case ha4 =>
              obtain ⟨⟨c0, c1, c2⟩, ⟨g0, g1⟩, k0, k1⟩ := FX.out w' hD.1
              go_simp; rfl
            simp only [Act.put, List.setIfInBounds_toArray, List.set_cons_succ, List.set_cons_zero, Nat.reduceAdd]
            refine wM_skip rfl ?_
            simp only [Act.put, List.setIfInBounds_toArray, List.set_cons_succ, List.set_cons_zero, Nat.reduceAdd]
            refine wM_skip rfl ?_
            simp only [Act.put, List.setIfInBounds_toArray, List.set_cons_succ, List.set_cons_zero, Nat.reduceAdd]
            refine wM_skip rfl ?_
            simp only [Act.put, List.setIfInBounds_toArray, List.set_cons_succ, List.set_cons_zero, Nat.reduceAdd]
            refine wM_skip rfl ?_
            simp only [Act.put, List.setIfInBounds_toArray, List.set_cons_succ, List.set_cons_zero, Nat.reduceAdd]
            refine wM_skip rfl ?_
            simp only [Act.put, List.setIfInBounds_toArray, List.set_cons_succ, List.set_cons_zero, Nat.reduceAdd]
            refine wM_skip rfl ?_
            simp only [Act.put, List.setIfInBounds_toArray, List.set_cons_succ, List.set_cons_zero, Nat.reduceAdd]
            refine wM_skip rfl ?_
            simp only [Act.put, List.setIfInBounds_toArray, List.set_cons_succ, List.set_cons_zero, Nat.reduceAdd]
            refine wM_skip rfl ?_
            simp only [Act.put, List.setIfInBounds_toArray, List.set_cons_succ, List.set_cons_zero, Nat.reduceAdd]
            refine wM_skip rfl ?_
            simp only [Act.put, List.setIfInBounds_toArray, List.set_cons_succ, List.set_cons_zero, Nat.reduceAdd]
            refine wM_val ?ua14 rfl rfl Ext.refl (fun w' hD => ?ha14) (fun pha14 => ?na14)
            case ha14 =>
              obtain ⟨⟨c0, c1, c2⟩, ⟨g0, g1⟩, k0, k1⟩ := FX.out w' hD.1
              go_simp; rfl
            simp only [Act.put, List.setIfInBounds_toArray, List.set_cons_succ, List.set_cons_zero, Nat.reduceAdd]
            refine wM_nil ?_
            intro w9 hw9 hF9
            clear hF9
            have HQ2 : Hid (truthRow h l a (b + 1) = true) := by unfold Hid; rw [truthRow_next, HUI.out, HQB.out]; rfl
            clear HQB HUB FX KU KB
            go_wp2
            go_roundw
            case rel => exact ⟨b + 1, by omega, by go_num, hx.trans hw9, HQ2⟩
            case measure => simp [intOf]; omega
          | true =>
            refine wp_region_shut Ext (fun w' => Ext wr w') (fun
              | 3 => some (fun v _ => v = .bool true) 
              | 13 => some (fun v _ => v = .bool B)
              | _ => none) (by kernel_rfl) (by kernel_rfl) (fun _ _ h k => h.trans k) ?hTb (Ext.drew (Ext.refl wr)) ?_
            case hTb =>
              intro i R hR
              match i, hR with
              | 3, hR => cases hR; exact fun _ _ _ h _ => h
              | 13, hR => cases hR; exact fun _ _ _ h _ => h
            refine wM_val ?ub0 rfl rfl Ext.refl (fun w' hD => ?hb0) (fun phb0 => ?nb0)
            case hb0 =>
              obtain ⟨⟨c0, c1, c2⟩, ⟨g0, g1⟩, k0, k1⟩ := FX.out w' hD.1
              go_simp; rfl
            simp only [Act.put, List.setIfInBounds_toArray, List.set_cons_succ, List.set_cons_zero, Nat.reduceAdd]
            refine wM_val ?ub1 rfl rfl Ext.refl (fun w' hD => ?hb1) (fun phb1 => ?nb1)
            case hb1 =>
              obtain ⟨⟨c0, c1, c2⟩, ⟨g0, g1⟩, k0, k1⟩ := FX.out w' hD.1
              go_simp; rfl
            simp only [Act.put, List.setIfInBounds_toArray, List.set_cons_succ, List.set_cons_zero, Nat.reduceAdd]
            refine wM_val ?ub2 rfl rfl Ext.refl (fun w' hD => ?hb2) (fun phb2 => ?nb2)
            case hb2 =>
              obtain ⟨⟨c0, c1, c2⟩, ⟨g0, g1⟩, k0, k1⟩ := FX.out w' hD.1
              go_simp; rfl
            simp only [Act.put, List.setIfInBounds_toArray, List.set_cons_succ, List.set_cons_zero, Nat.reduceAdd]
            refine wM_op _ rfl rfl (opens_call ?fb3 ?gb3 (fun w' hD => ?hb3) (fun w' hD => ?cb3)) (fun v3 hv3 => ?nb3)
            case hb3 => go_simp; constructor <;> rfl
            case cb3 =>
              refine (KU.out w' hD.1).mono ?_
              rintro e w2 ⟨rfl, hb⟩
              exact ⟨_, rfl, hb, rfl⟩
            obtain ⟨_, -, -, rfl⟩ := hv3
            simp only [Act.put, List.setIfInBounds_toArray, List.set_cons_succ, List.set_cons_zero, Nat.reduceAdd]
            refine wM_val ?ub4 rfl rfl Ext.refl (fun w' hD => ?hb4) (fun phb4 => ?nb4)
            case hb4 =>
              obtain ⟨⟨c0, c1, c2⟩, ⟨g0, g1⟩, k0, k1⟩ := FX.out w' hD.1
              go_simp; rfl
            simp only [Act.put, List.setIfInBounds_toArray, List.set_cons_succ, List.set_cons_zero, Nat.reduceAdd]
            refine wM_val ?ub5 rfl rfl Ext.refl (fun w' hD => ?hb5) (fun phb5 => ?nb5)
            case hb5 =>
              obtain ⟨⟨c0, c1, c2⟩, ⟨g0, g1⟩, k0, k1⟩ := FX.out w' hD.1
              go_simp; rfl
            simp only [Act.put, List.setIfInBounds_toArray, List.set_cons_succ, List.set_cons_zero, Nat.reduceAdd]
            refine wM_val ?ub6 rfl rfl Ext.refl (fun w' hD => ?hb6) (fun phb6 => ?nb6)
            case hb6 =>
              obtain ⟨⟨c0, c1, c2⟩, ⟨g0, g1⟩, k0, k1⟩ := FX.out w' hD.1
              go_simp; rfl
            simp only [Act.put, List.setIfInBounds_toArray, List.set_cons_succ, List.set_cons_zero, Nat.reduceAdd]
            refine wM_val ?ub7 rfl rfl Ext.refl (fun w' hD => ?hb7) (fun phb7 => ?nb7)
            case hb7 =>
              obtain ⟨⟨c0, c1, c2⟩, ⟨g0, g1⟩, k0, k1⟩ := FX.out w' hD.1
              go_simp; rfl
            simp only [Act.put, List.setIfInBounds_toArray, List.set_cons_succ, List.set_cons_zero, Nat.reduceAdd]
            refine wM_val ?ub8 rfl rfl Ext.refl (fun w' hD => ?hb8) (fun phb8 => ?nb8)
            case hb8 =>
              obtain ⟨⟨c0, c1, c2⟩, ⟨g0, g1⟩, k0, k1⟩ := FX.out w' hD.1
              go_simp; rfl
            simp only [Act.put, List.setIfInBounds_toArray, List.set_cons_succ, List.set_cons_zero, Nat.reduceAdd]
            refine wM_val ?ub9 rfl rfl Ext.refl (fun w' hD => ?hb9) (fun phb9 => ?nb9)
            case hb9 =>
              obtain ⟨⟨c0, c1, c2⟩, ⟨g0, g1⟩, k0, k1⟩ := FX.out w' hD.1
              go_simp; rfl
            simp only [Act.put, List.setIfInBounds_toArray, List.set_cons_succ, List.set_cons_zero, Nat.reduceAdd]
            refine wM_val ?ub10 rfl rfl Ext.refl (fun w' hD => ?hb10) (fun phb10 => ?nb10)
            case hb10 =>
              obtain ⟨⟨c0, c1, c2⟩, ⟨g0, g1⟩, k0, k1⟩ := FX.out w' hD.1
              go_simp; rfl
            simp only [Act.put, List.setIfInBounds_toArray, List.set_cons_succ, List.set_cons_zero, Nat.reduceAdd]
            refine wM_val ?ub11 rfl rfl Ext.refl (fun w' hD => ?hb11) (fun phb11 => ?nb11)
            case hb11 =>
              obtain ⟨⟨c0, c1, c2⟩, ⟨g0, g1⟩, k0, k1⟩ := FX.out w' hD.1
              go_simp; rfl
            simp only [Act.put, List.setIfInBounds_toArray, List.set_cons_succ, List.set_cons_zero, Nat.reduceAdd]
            refine wM_val ?ub12 rfl rfl Ext.refl (fun w' hD => ?hb12) (fun phb12 => ?nb12)
            case hb12 =>
              obtain ⟨⟨c0, c1, c2⟩, ⟨g0, g1⟩, k0, k1⟩ := FX.out w' hD.1
              go_simp; rfl
            simp only [Act.put, List.setIfInBounds_toArray, List.set_cons_succ, List.set_cons_zero, Nat.reduceAdd]
            refine wM_op _ rfl rfl (opens_call ?fb13 ?gb13 (fun w' hD => ?hb13) (fun w' hD => ?cb13)) (fun v13 hv13 => ?nb13)
            case hb13 => go_simp; constructor <;> rfl
            case cb13 =>
              refine (KB.out w').mono ?_
              rintro e w2 ⟨rfl, hb⟩
              exact ⟨_, rfl, hb, rfl⟩
            obtain ⟨_, -, -, rfl⟩ := hv13
            simp only [Act.put, List.setIfInBounds_toArray, List.set_cons_succ, List.set_cons_zero, Nat.reduceAdd]
            refine wM_val ?ub14 rfl rfl Ext.refl (fun w' hD => ?hb14) (fun phb14 => ?nb14)
            case hb14 =>
              obtain ⟨⟨c0, c1, c2⟩, ⟨g0, g1⟩, k0, k1⟩ := FX.out w' hD.1
              go_simp; rfl
            simp only [Act.put, List.setIfInBounds_toArray, List.set_cons_succ, List.set_cons_zero, Nat.reduceAdd]
            refine wM_nil ?_
            intro w9 hw9 hF9
            clear hF9
            cases B with
            | false =>
              have HQ2 : Hid (truthRow h l a (b + 1) = true) := by unfold Hid; rw [truthRow_next, HQB.out, HUI.out, HUB.out]; rfl
              clear HQB HUB FX KU KB
              go_wp2
              go_roundw
              case rel => exact ⟨b + 1, by omega, by go_num, hx.trans hw9, HQ2⟩
              case measure => simp [intOf]; omega
            | true =>
              have HN2 : Hid (R = false) := by
                unfold Hid
                rw [← HR.out]
                refine all_false_of hla ?_
                unfold truthRow
                rw [HM.out]
                refine all_false_of hlb ?_
                rw [HUI.out, HUB.out]; rfl
              clear FX KU KB
              go_wp2
              go_ret
              exact ⟨ret_of (bool_of HN2.out.symm), hx0.trans (hx.trans hw9)⟩
        · have hlb' : ¬ (b : Int) < (M : Int) := by omega
          obtain rfl : b = M := by omega
          have HQ2 : Hid (truthR h l (a + 1) = true) := by unfold Hid; rw [truthR_next, HM.out, HQA.out, HQB.out]; rfl
          clear HQA HQB
          go_wp2
          go_roundw
          case rel => exact ⟨a + 1, by omega, by go_num, hx, HQ2⟩
          case measure => simp [intOf]; omega
    · have hla' : ¬ (a : Int) < (M : Int) := by omega
      obtain rfl : a = M := by omega
      have HN2 : Hid (R = true) := by unfold Hid; rw [← HR.out, HQA.out]
      go_wp2
      go_ret
      exact ⟨ret_of (bool_of HN2.out.symm), hx0.trans hx⟩
set_option maxRecDepth 100000 in
set_option maxHeartbeats 1000000 in
theorem refnone_any (v : Value) (h : Hs) (w : World) (hr : HsR w v h) (hl : h.ws.length ≤ 1000) :
    Calls Try.prog 92 #[v] w fun e w' => ∃ B, e = .returned (.slice (some ⟨B, 0, none⟩) h.ws.length h.ws.length) ∧ w.heap.size ≤ B ∧ Brow w' B (rl h.ws.length fun _ => false) ∧ Ext w w' := by
  obtain ⟨A, c, rfl, hrw, hcap⟩ := hr
  obtain ⟨W0, hW0⟩ : ∃ W0, w.alloc (.cells #[.int .i64 h.mo, .int .i64 h.pk, .slice A h.ws.length c] 75) = W0 := ⟨_, rfl⟩
  have hx0 : Ext w W0 := by rw [← hW0]; exact Ext.alloc (Ext.refl w) _
  have b0 : W0.heap[w.heap.size]? = some (.cells #[.int .i64 h.mo, .int .i64 h.pk, .slice A h.ws.length c] 75 (0, 0)) := by rw [← hW0]; exact heap_alloc_new w _
  have FH : Hid (∀ w', Ext W0 w' → w'.cell? ⟨w.heap.size, 0, none⟩ = some (.int .i64 h.mo) ∧ w'.cell? ⟨w.heap.size, 1, none⟩ = some (.int .i64 h.pk) ∧ w'.cell? ⟨w.heap.size, 2, none⟩ = some (.slice A h.ws.length c)) := fun w' hx => by
    obtain ⟨q0, q1, q2, -⟩ := rhouse_cells b0
    exact ⟨hx.cell q0, hx.cell q1, hx.cell q2⟩
  have HRW : Hid (∀ w', Ext W0 w' → Wgs w' A h.ws) := fun w' hx => Rows.ext hrw (hx0.trans hx)
  have HW0 := hid hW0
  obtain ⟨N, hN⟩ : ∃ N : Nat, h.ws.length = N := ⟨_, rfl⟩
  have hmk := fun w => run_make_row' (P := Try.prog) 109 4 (.bool false) 1 Try.underlying109 infoBool rfl .i64 .i64 N (by omega) (by omega) w
  rw [hN] at hl FH hW0 HW0 ⊢
  unfold hval
  rw [hN]
  have q2 := (FH.out W0 (Ext.refl _)).2.2
  clear hN hrw hcap HRW hW0
  go_enter Try.func92, Try.ntmps92
  go_upto_region 1 with fail
  rw [HW0.out]
  clear HW0
  go_wp2
  obtain ⟨W2, hW2⟩ : ∃ W2, W0.alloc (.cells (madeCells #[.bool false] N) 4) = W2 := ⟨_, rfl⟩
  have hxW2 : Ext W0 W2 := by rw [← hW2]; exact Ext.alloc (Ext.refl _) _
  have hI0 : Brow W2 W0.heap.size (rl N fun _ => false) := by
    rw [rl_const, ← hW2, made_brow]; exact World.alloc_heap_new _ _
  rw [hW2]
  have hge := hx0.size
  go_ret
  exact ⟨_, rfl, hge, hI0, hx0.trans hxW2⟩
set_option maxRecDepth 100000 in
set_option maxHeartbeats 4000000 in
theorem refagree_any (v : Value) (h : Hs) (Ag : Option Addr) (cg : Nat) (g : Nat → Bool) (w : World) (hr : HsR w v h) (hA : Bools w Ag (rl h.ws.length g)) (hm : ∀ x ∈ h.ws, WgM x) (hl : h.ws.length ≤ 1000) :
    Calls Try.prog 95 #[v, .slice Ag h.ws.length cg] w fun e w' => e = .returned (.bool (agrG h g h.ws.length)) ∧ Ext w w' := by
  obtain ⟨A, c, rfl, hrw, hcap⟩ := hr
  obtain ⟨W0, hW0⟩ : ∃ W0, w.alloc (.cells #[.int .i64 h.mo, .int .i64 h.pk, .slice A h.ws.length c] 75) = W0 := ⟨_, rfl⟩
  have hx0 : Ext w W0 := by rw [← hW0]; exact Ext.alloc (Ext.refl w) _
  have b0 : W0.heap[w.heap.size]? = some (.cells #[.int .i64 h.mo, .int .i64 h.pk, .slice A h.ws.length c] 75 (0, 0)) := by rw [← hW0]; exact heap_alloc_new w _
  have FH : Hid (∀ w', Ext W0 w' → w'.cell? ⟨w.heap.size, 0, none⟩ = some (.int .i64 h.mo) ∧ w'.cell? ⟨w.heap.size, 1, none⟩ = some (.int .i64 h.pk) ∧ w'.cell? ⟨w.heap.size, 2, none⟩ = some (.slice A h.ws.length c)) := fun w' hx => by
    obtain ⟨q0, q1, q2, -⟩ := rhouse_cells b0
    exact ⟨hx.cell q0, hx.cell q1, hx.cell q2⟩
  have HRW : Hid (∀ w', Ext W0 w' → Wgs w' A h.ws) := fun w' hx => Rows.ext hrw (hx0.trans hx)
  have HW0 := hid hW0
  obtain ⟨N, hN⟩ : ∃ N : Nat, h.ws.length = N := ⟨_, rfl⟩
  have HN := hid hN
  rw [hN] at FH hA hW0 HW0 hl ⊢
  have HA : Hid (∀ w', Ext W0 w' → Bools w' Ag (rl N g)) := fun w' hx => hA.ext (hx0.trans hx)
  have HU : Hid (∀ (a b : Nat), a < N → b < N → ∀ w', Ext W0 w' → _) := fun a b ha hb w' hx => refclashes_any (hval h A c) h a b w' ⟨A, c, rfl, HRW.out w' hx, hcap⟩ (by rw [hN]; exact ha) (by rw [hN]; exact hb) hm
  obtain ⟨R, hR⟩ : ∃ R, agrG h g N = R := ⟨_, rfl⟩
  have HR := hid hR
  rw [hR]
  unfold hval at HU
  rw [hN] at HU
  unfold hval
  rw [hN]
  clear hR hN hrw b0 hW0 hA hcap HRW hm
  go_enter Try.func95, Try.ntmps95
  go_upto_region 1 with fail
  rw [HW0.out]
  clear HW0
  go_wp2
  go_loopw [5] (fun i wr => ∃ a : Nat, a ≤ N ∧ i = .int .i64 (a : Int) ∧ Ext W0 wr ∧ Hid (agrG h g a = true)) (fun i _ => N - (intOf i).toNat)
  case atStart => exact ⟨0, Nat.zero_le _, rfl, Ext.refl _, rfl⟩
  case round =>
    obtain ⟨a, ha, rfl, hx, HQA⟩ := hrel
    obtain ⟨c0, c1, c2⟩ := FH.out wr hx
    by_cases hla : a < N
    · have hla' : (a : Int) < (N : Int) := by omega
      obtain ⟨wo, rfl⟩ : ∃ wo : World, wo = wr := ⟨_, rfl⟩
      go_wp2
      clear c0 c1 c2
      go_loopw [6] (fun i wr => ∃ b : Nat, b ≤ N ∧ i = .int .i64 (b : Int) ∧ Ext W0 wr ∧ Hid (agrP h g a b = true)) (fun i _ => N - (intOf i).toNat)
      case atStart => exact ⟨0, Nat.zero_le _, rfl, hx, rfl⟩
      case round =>
        obtain ⟨b, hb, rfl, hx, HQB⟩ := hrel
        obtain ⟨c0, c1, c2⟩ := FH.out wr hx
        by_cases hlb : b < N
        · have hlb' : (b : Int) < (N : Int) := by omega
          obtain ⟨b1, o1, e1, g0⟩ := (HA.out wr hx).at_ (rl_get g hla)
          obtain ⟨b2, o2, e2, g1⟩ := (HA.out wr hx).at_ (rl_get g hlb)
          subst e1
          cases e2
          have KU := hid (HU.out a b hla hlb wr hx)
          have HST := hid (agrP_next h g a b)
          rw [HQB.out] at HST
          have HBAD : Hid (agrP h g a (b + 1) = false → R = false) := fun e => by
            rw [← HR.out]
            refine all_false_of hla ?_
            unfold agrP at e ⊢
            rw [HN.out]
            rw [List.range_succ, List.all_append] at e
            have e0 := HQB.out
            unfold agrP at e0
            rw [e0] at e
            refine all_false_of hlb ?_
            simpa using e
          obtain ⟨ga, hga⟩ : ∃ x, g a = x := ⟨_, rfl⟩
          obtain ⟨gb, hgb⟩ : ∃ x, g b = x := ⟨_, rfl⟩
          obtain ⟨C, hC⟩ : ∃ x, claH h a b = x := ⟨_, rfl⟩
          rw [hga] at g0 HST
          rw [hgb] at g1 HST
          rw [hC] at KU HST
          clear hga hgb hC HQB
          cases ga with
          | true =>
            have HQ2 : Hid (agrP h g a (b + 1) = true) := HST.out
            clear HST HBAD KU
            go_wp2
            go_roundw
            case rel => exact ⟨b + 1, by omega, by go_num, hx, HQ2⟩
            case measure => simp [intOf]; omega
          | false =>
            cases gb with
            | true =>
              have HQ2 : Hid (agrP h g a (b + 1) = true) := HST.out
              clear HST HBAD KU
              go_wp2
              go_roundw
              case rel => exact ⟨b + 1, by omega, by go_num, hx, HQ2⟩
              case measure => simp [intOf]; omega
            | false =>
              go_wp2_with fail
              refine KU.out.mono ?_
              rintro e w5 ⟨rfl, hx5⟩
              clear KU c0 c1 c2 g0 g1
              cases C with
              | false =>
                have HQ2 : Hid (agrP h g a (b + 1) = true) := HST.out
                clear HST HBAD
                go_wp2
                go_roundw
                case rel => exact ⟨b + 1, by omega, by go_num, hx.trans hx5, HQ2⟩
                case measure => simp [intOf]; omega
              | true =>
                have HN2 : Hid (R = false) := HBAD.out HST.out
                go_wp2
                go_ret
                exact ⟨ret_of (bool_of HN2.out.symm), hx0.trans (hx.trans hx5)⟩
        · have hlb' : ¬ (b : Int) < (N : Int) := by omega
          obtain rfl : b = N := by omega
          have HQ2 : Hid (agrG h g (a + 1) = true) := by unfold Hid; rw [agrG_next, HN.out, HQA.out, HQB.out]; rfl
          clear HQA HQB
          go_wp2
          go_roundw
          case rel => exact ⟨a + 1, by omega, by go_num, hx, HQ2⟩
          case measure => simp [intOf]; omega
    · have hla' : ¬ (a : Int) < (N : Int) := by omega
      obtain rfl : a = N := by omega
      have HN2 : Hid (R = true) := by unfold Hid; rw [← HR.out, HQA.out]
      go_wp2
      go_ret
      exact ⟨ret_of (bool_of HN2.out.symm), hx0.trans hx⟩
end Go.Proofs.Ytjnobdcbbboeeaa
