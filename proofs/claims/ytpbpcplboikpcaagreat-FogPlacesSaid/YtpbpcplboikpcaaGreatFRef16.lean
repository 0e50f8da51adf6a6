/- The walk of the reference's Heard. Printed by my gen_fref16.py. -/
import Derived.Test.YtpbpcplboikpcaaGreatG9
import Derived.Test.YtpbpcplboikpcaaGreatFStillP
namespace Go.Proofs.YtpbpcplboikpcaaGreat
open Go Go.RowKit Go.Shelf
set_option linter.unusedVariables false
set_option linter.unusedSimpArgs false

set_option maxRecDepth 100000 in
set_option maxHeartbeats 8000000 in
theorem refheard_any (v : Value) (f : Fg) (k i : Nat) (c : Ct) (x : Bl) (w : World) (hf : RgR w v f (distL f)) (hs : f.sized) (hok : FogOK f) (hc : f.ct[k]? = some c) (hi : f.bl[i]? = some x) :
    Calls Tryz.prog 53 #[v, .int .i64 (k : Int), .int .i64 (i : Int)] w fun e w' => e = .returned (.tuple #[.bool ((canN (farM f) f c x.mi.toNat).all (heardM (farM f) x)), .bool (!(canN (farM f) f c x.mi.toNat).any (heardM (farM f) x))]) ∧ Ext w w' := by
  have hxb := hok.bl x (mem_of_get hi)
  obtain ⟨mn, hmn0⟩ : ∃ mn : Nat, x.mi = mn := ⟨x.mi.toNat, by omega⟩
  have hmn : mn ≤ f.mi.toNat := by omega
  obtain ⟨pn, hpn0⟩ : ∃ pn : Nat, x.pl = pn := ⟨x.pl.toNat, by omega⟩
  have hpn : pn < f.pl.toNat := by omega
  have HXM := hid (mem_of_get hi)
  obtain ⟨LN, hLN⟩ : ∃ LN, canN (farM f) f c mn = LN := ⟨_, rfl⟩
  obtain ⟨AA, hAA⟩ : ∃ AA, LN.all (heardM (farM f) x) = AA := ⟨_, rfl⟩
  obtain ⟨NN, hNN⟩ : ∃ NN, (!LN.any (heardM (farM f) x)) = NN := ⟨_, rfl⟩
  rw [hmn0, Int.toNat_natCast, hLN, hAA, hNN]
  have HAA := hid hAA
  have HNN := hid hNN
  have HLN := hid hLN
  have HPN := hid hpn0
  have HFF0 := hid hf
  obtain ⟨s, A4, c4, rfl, hr, hd⟩ := hf
  have hmi := hok.mi
  have hpl := hok.pl
  have hil := (List.getElem?_eq_some_iff.1 hi).1
  have hil' : (i : Int) < (f.bl.length : Int) := by omega
  have hl8 : LN.length ≤ 8 := by rw [← hLN]; have := (canN_lt (g := farM f) (c := c) hpl.2 mn).2; rwa [natI_len] at this
  have hlt8 : Hid (∀ q ∈ LN, q < f.pl.toNat) := fun q hq => can_lt hmn (by rw [hLN]; exact hq)
  have HOK := hid hok
  have HC := hid hc
  have HS := hid hs
  obtain ⟨bb, bo, hA2, y0, y1, y2⟩ := Blasts.at_ hr.bl hi
  have HA2 := hid hA2
  rw [hmn0] at y0
  rw [hpn0] at y1
  obtain ⟨W1, hW1⟩ : ∃ W1, w.alloc (.cells #[.int .i64 f.pl, .int .i64 f.mi, .slice s.a1 f.tr.length s.c1, .slice s.a2 f.bl.length s.c2, .slice s.a3 f.ct.length s.c3, .slice A4 (distL f).length c4] 37) = W1 := ⟨_, rfl⟩
  obtain ⟨W0, hW0⟩ : ∃ W0, W1.alloc (.cells #[.int .i64 (mn : Int), .int .i64 (pn : Int), .int .i64 x.lo] 126) = W0 := ⟨_, rfl⟩
  have hx01 : Ext w W1 := by rw [← hW1]; exact Ext.alloc (Ext.refl w) _
  have hx0 : Ext w W0 := by rw [← hW0]; exact hx01.alloc _
  have hs1 : W1.heap.size = w.heap.size + 1 := by rw [← hW1]; simp
  have F1 : Hid (∀ w', Ext W1 w' → w'.cell? ⟨w.heap.size, 0, none⟩ = some (.int .i64 f.pl) ∧ w'.cell? ⟨w.heap.size, 1, none⟩ = some (.int .i64 f.mi) ∧ w'.cell? ⟨w.heap.size, 2, none⟩ = some (.slice s.a1 f.tr.length s.c1) ∧ w'.cell? ⟨w.heap.size, 3, none⟩ = some (.slice (some ⟨bb, bo, none⟩) f.bl.length s.c2) ∧ w'.cell? ⟨w.heap.size, 4, none⟩ = some (.slice s.a3 f.ct.length s.c3) ∧ w'.cell? ⟨w.heap.size, 5, none⟩ = some (.slice A4 (distL f).length c4)) := fun w' h => ⟨h.cell (by rw [← hW1]; simp [go_sem]), h.cell (by rw [← hW1]; simp [go_sem]), h.cell (by rw [← hW1]; simp [go_sem]), by rw [← HA2.out]; exact h.cell (by rw [← hW1]; simp [go_sem]), h.cell (by rw [← hW1]; simp [go_sem]), h.cell (by rw [← hW1]; simp [go_sem])⟩
  have hx10 : Ext W1 W0 := by rw [← hW0]; exact Ext.alloc (Ext.refl _) _
  have FX : Hid (∀ w', Ext W0 w' → w'.cell? ⟨w.heap.size, 0, none⟩ = some (.int .i64 f.pl) ∧ w'.cell? ⟨w.heap.size, 1, none⟩ = some (.int .i64 f.mi) ∧ w'.cell? ⟨w.heap.size, 2, none⟩ = some (.slice s.a1 f.tr.length s.c1) ∧ w'.cell? ⟨w.heap.size, 3, none⟩ = some (.slice (some ⟨bb, bo, none⟩) f.bl.length s.c2) ∧ w'.cell? ⟨w.heap.size, 4, none⟩ = some (.slice s.a3 f.ct.length s.c3) ∧ w'.cell? ⟨w.heap.size, 5, none⟩ = some (.slice A4 (distL f).length c4) ∧ w'.cell? ⟨w.heap.size + 1, 0, none⟩ = some (.int .i64 (mn : Int)) ∧ w'.cell? ⟨w.heap.size + 1, 1, none⟩ = some (.int .i64 (pn : Int)) ∧ w'.cell? ⟨w.heap.size + 1, 2, none⟩ = some (.int .i64 x.lo)) := fun w' h => by
    obtain ⟨a0, a1, a2, a3, a4, a5⟩ := F1.out w' (hx10.trans h)
    refine ⟨a0, a1, a2, a3, a4, a5, ?_, ?_, ?_⟩ <;> exact h.cell (by rw [← hW0, ← hs1]; simp [go_sem])
  have HFF : Hid (∀ w', Ext W0 w' → RgR w' (.agg #[.int .i64 f.pl, .int .i64 f.mi, .slice s.a1 f.tr.length s.c1, .slice (some ⟨bb, bo, none⟩) f.bl.length s.c2, .slice s.a3 f.ct.length s.c3, .slice A4 (distL f).length c4]) f (distL f)) := fun w' h => by
    have := HFF0.out.ext (hx0.trans h)
    unfold rval at this
    rw [HA2.out] at this
    exact this
  obtain ⟨q0, q1, q2, q3, q4, q5⟩ := F1.out W1 (Ext.refl _)
  have y0' := hx01.cell y0
  have y1' := hx01.cell y1
  have y2' := hx01.cell y2
  unfold rval
  rw [HA2.out]
  have HE1 := hid hW1
  have HE0 := hid hW0
  have HES := hid hs1
  clear hr hd hc hok hs hi hA2 y0 y1 y2 hAA hNN hLN hmn0 hpn0 hxb hW1 hW0 hs1
  go_enter Tryz.func53, Tryz.ntmps53
  go_upto_region 1 with fail
  try rw [← HA2.out]
  try rw [HE1.out]
  try rw [HA2.out]
  go_upto_region 2 with fail
  try rw [HE0.out]
  try rw [HES.out]
  clear q0 q1 q2 q3 q4 q5 y0' y1' y2' HE1 HE0 HES F1
  have hmn' : (mn : Int) < (f.mi.toNat : Int) + 1 := by omega
  have hmx : (mn : Int) < max f.mi 0 + 1 := by omega
  refine wp_region_shut Ext (fun w' => Ext W0 w') (fun
    | 2 => some (fun v w' => ∃ A k, v = .slice (some A) (f.mi.toNat + 1) k ∧ IntRows w' (some A) (canL (farM f) f c))
    | 5 => some (fun v w' => ∃ rb ro A' k', v = .pointer (some ⟨rb, ro, none⟩) ∧ w'.cell? ⟨rb, ro, none⟩ = some (.slice A' (natI (canN (farM f) f c mn)).length k') ∧ Ints w' A' (natI (canN (farM f) f c mn)))
    | 6 => some (fun v w' => ∃ A' k', v = .slice A' (natI (canN (farM f) f c mn)).length k' ∧ Ints w' A' (natI (canN (farM f) f c mn)))
    | _ => none) (by kernel_rfl) (by kernel_rfl) (fun _ _ h k => h.trans k) ?hTa (Ext.drew (Ext.refl W0)) ?_
  case hTa =>
    intro i R hR
    match i, hR with
    | 2, hR => cases hR; exact fun _ _ _ ⟨A, k', e, h⟩ k => ⟨A, k', e, h.ext k⟩
    | 5, hR => cases hR; exact fun _ _ _ ⟨rb, ro, A', k', e, h1, h⟩ k => ⟨rb, ro, A', k', e, k.cell h1, h.ext k⟩
    | 6, hR => cases hR; exact fun _ _ _ ⟨A', k', e, h⟩ k => ⟨A', k', e, h.ext k⟩
  refine wM_val ?ua0 rfl rfl Ext.refl (fun w' hD => ?ha0) (fun pha0 => ?na0)
  case ha0 =>
    obtain ⟨q0, q1, q2, q3, q4, q5, z0, z1, z2⟩ := FX.out w' hD.1
    go_simp; rfl
  simp only [Act.put, List.setIfInBounds_toArray, List.set_cons_succ, List.set_cons_zero, Nat.reduceAdd]
  refine wM_val ?ua1 rfl rfl Ext.refl (fun w' hD => ?ha1) (fun pha1 => ?na1)
  case ha1 =>
    obtain ⟨q0, q1, q2, q3, q4, q5, z0, z1, z2⟩ := FX.out w' hD.1
    go_simp; rfl
  simp only [Act.put, List.setIfInBounds_toArray, List.set_cons_succ, List.set_cons_zero, Nat.reduceAdd]
  refine wM_op _ rfl rfl (opens_call ?fa2 ?ga2 (fun w' hD => ?ha2) (fun w' hD => ?ca2)) (fun v2 hv2 => ?na2)
  case ha2 => go_simp; constructor <;> rfl
  case ca2 =>
    refine (refcan_any _ f k c w' (HFF.out w' hD.1) HS.out HOK.out HC.out).mono ?_
    rintro e w2 ⟨A, kk, rfl, hb, hI, -⟩
    exact ⟨_, rfl, hb, A, kk, rfl, hI⟩
  obtain ⟨_, -, -, Ac, kc, rfl, -⟩ := hv2
  simp only [Act.put, List.setIfInBounds_toArray, List.set_cons_succ, List.set_cons_zero, Nat.reduceAdd]
  refine wM_val ?ua3 rfl rfl Ext.refl (fun w' hD => ?ha3) (fun pha3 => ?na3)
  case ha3 =>
    obtain ⟨q0, q1, q2, q3, q4, q5, z0, z1, z2⟩ := FX.out w' hD.1
    go_simp; rfl
  simp only [Act.put, List.setIfInBounds_toArray, List.set_cons_succ, List.set_cons_zero, Nat.reduceAdd]
  refine wM_val ?ua4 rfl rfl Ext.refl (fun w' hD => ?ha4) (fun pha4 => ?na4)
  case ha4 =>
    obtain ⟨q0, q1, q2, q3, q4, q5, z0, z1, z2⟩ := FX.out w' hD.1
    go_simp; rfl
  simp only [Act.put, List.setIfInBounds_toArray, List.set_cons_succ, List.set_cons_zero, Nat.reduceAdd]
  refine wM_op _ rfl rfl (opens_val (fun w' hD => ?ha5)) (fun v5 hv5 => ?na5)
  case ha5 =>
    obtain ⟨_, Ac', kc', e1, h1⟩ := hD.get 2 (by first | kernel_rfl | simp [Region.binds])
    cases e1
    obtain ⟨rb, ro, A', k', e2, h2, h3, -⟩ := h1.at_ (canL_get (g := farM f) (f := f) (c := c) hmn)
    cases e2
    refine ⟨.pointer (some ⟨rb, ro + mn, none⟩), w', ?_, Ext.refl _, ⟨rb, ro + mn, A', k', rfl, h2, h3⟩⟩
    go_simp
  obtain ⟨_, _, _, g7, o7, A7, k7, rfl, _⟩ := hv5
  simp only [Act.put, List.setIfInBounds_toArray, List.set_cons_succ, List.set_cons_zero, Nat.reduceAdd]
  refine wM_op _ rfl rfl (opens_val (fun w' hD => ?ha6)) (fun v6 hv6 => ?na6)
  case ha6 =>
    obtain ⟨_, rb, ro, A', k', e1, h2, h3⟩ := hD.get 5 (by first | kernel_rfl | simp [Region.binds])
    cases e1
    refine ⟨.slice A' (natI (canN (farM f) f c mn)).length k', w', ?_, Ext.refl _, ⟨A', k', rfl, h3⟩⟩
    go_simp
  obtain ⟨_, _, _, A8, k8, rfl, _⟩ := hv6
  simp only [Act.put, List.setIfInBounds_toArray, List.set_cons_succ, List.set_cons_zero, Nat.reduceAdd]
  refine wM_val ?ua7 rfl rfl Ext.refl (fun w' hD => ?ha7) (fun pha7 => ?na7)
  case ha7 =>
    obtain ⟨q0, q1, q2, q3, q4, q5, z0, z1, z2⟩ := FX.out w' hD.1
    go_simp; rfl
  simp only [Act.put, List.setIfInBounds_toArray, List.set_cons_succ, List.set_cons_zero, Nat.reduceAdd]
  refine wM_nil ?_
  intro w9 hw9 hF9
  obtain ⟨-, A8', k8', e8, hI8⟩ := hF9 6
  cases e8
  clear hF9
  rw [HLN.out] at hI8 ⊢
  have HI8 := hid hI8
  clear hI8
  go_wp2_with fail
  go_loopw [12, 10, 11] (fun i12 i10 i11 wr => ∃ j : Nat, j ≤ LN.length ∧ i12 = .int .i64 (j : Int) ∧ i10 = .bool ((LN.take j).all (heardM (farM f) x)) ∧ i11 = .bool (!(LN.take j).any (heardM (farM f) x)) ∧ Ext W0 wr ∧ Ext w9 wr) (fun i _ _ _ => LN.length - (intOf i).toNat)
  case atStart => exact ⟨0, Nat.zero_le _, rfl, by simp, by simp, hw9, Ext.refl _⟩
  case round =>
    obtain ⟨j, hj, rfl, rfl, rfl, hx, hx9⟩ := hrel
    by_cases hlt : j < LN.length
    · have hlt' : (j : Int) < (LN.length : Int) := by omega
      obtain ⟨xn, hxj⟩ := get_of_lt LN j hlt
      have hxl := hlt8.out xn (mem_of_get hxj)
      obtain ⟨b7, o7, e7, g7⟩ := Ints.at_ (HI8.out.ext hx9) (show (natI LN)[j]? = some (xn : Int) by unfold natI; rw [List.getElem?_map, hxj]; rfl)
      rw [e7]
      have FM : Hid (∀ w', Ext wr w' → w'.cell? ⟨b7, o7 + j, none⟩ = some (.int .i64 (xn : Int))) := fun w' h => h.cell g7
      obtain ⟨HQ, hHQ⟩ : ∃ HQ, heardM (farM f) x xn = HQ := ⟨_, rfl⟩
      have HHQ := hid hHQ
      have HHH : Hid (hearR f pn x.lo xn = HQ) := by
        have h := heard_hearR HOK.out HXM.out hxl
        rw [HPN.out, Int.toNat_natCast] at h
        unfold Hid; rw [← hHQ]; exact h
      have HN1 : Hid ((LN.take (j + 1)).all (heardM (farM f) x) = ((LN.take j).all (heardM (farM f) x) && HQ)) := by
        unfold Hid; rw [take_next hxj, List.all_append, ← hHQ]; simp
      have HN2 : Hid ((LN.take (j + 1)).any (heardM (farM f) x) = ((LN.take j).any (heardM (farM f) x) || HQ)) := by
        unfold Hid; rw [take_next hxj, List.any_append, ← hHQ]; simp
      obtain ⟨P1, hP1⟩ : ∃ P1, (LN.take j).all (heardM (farM f) x) = P1 := ⟨_, rfl⟩
      obtain ⟨P2, hP2⟩ : ∃ P2, (!(LN.take j).any (heardM (farM f) x)) = P2 := ⟨_, rfl⟩
      rw [hP1, hP2]
      have HP1 := hid hP1
      have HP2 := hid hP2
      have hnl : (natI LN).length = LN.length := natI_len _
      have HNLL := hid hnl
      rw [hnl]
      clear g7 e7 hxj hHQ hP1 hP2 hnl
      go_wp2
      refine wp_region_shut Ext (fun w' => Ext wr w') (fun
        | 9 => some (fun v _ => v = .bool HQ)
        | _ => none) (by kernel_rfl) (by kernel_rfl) (fun _ _ h k => h.trans k) ?hTb (Ext.drew (Ext.refl wr)) ?_
      case hTb =>
        intro i R hR
        match i, hR with
        | 9, hR => cases hR; exact fun _ _ _ h _ => h
      refine wM_val ?ub0 rfl rfl Ext.refl (fun w' hD => ?hb0) (fun phb0 => ?nb0)
      case hb0 =>
        obtain ⟨q0, q1, q2, q3, q4, q5, z0, z1, z2⟩ := FX.out w' (hx.trans hD.1)
        have gm := FM.out w' hD.1
        go_simp; rfl
      simp only [Act.put, List.setIfInBounds_toArray, List.set_cons_succ, List.set_cons_zero, Nat.reduceAdd]
      refine wM_val ?ub1 rfl rfl Ext.refl (fun w' hD => ?hb1) (fun phb1 => ?nb1)
      case hb1 =>
        obtain ⟨q0, q1, q2, q3, q4, q5, z0, z1, z2⟩ := FX.out w' (hx.trans hD.1)
        have gm := FM.out w' hD.1
        go_simp; rfl
      simp only [Act.put, List.setIfInBounds_toArray, List.set_cons_succ, List.set_cons_zero, Nat.reduceAdd]
      refine wM_val ?ub2 rfl rfl Ext.refl (fun w' hD => ?hb2) (fun phb2 => ?nb2)
      case hb2 =>
        obtain ⟨q0, q1, q2, q3, q4, q5, z0, z1, z2⟩ := FX.out w' (hx.trans hD.1)
        have gm := FM.out w' hD.1
        go_simp; rfl
      simp only [Act.put, List.setIfInBounds_toArray, List.set_cons_succ, List.set_cons_zero, Nat.reduceAdd]
      refine wM_val ?ub3 rfl rfl Ext.refl (fun w' hD => ?hb3) (fun phb3 => ?nb3)
      case hb3 =>
        obtain ⟨q0, q1, q2, q3, q4, q5, z0, z1, z2⟩ := FX.out w' (hx.trans hD.1)
        have gm := FM.out w' hD.1
        go_simp; rfl
      simp only [Act.put, List.setIfInBounds_toArray, List.set_cons_succ, List.set_cons_zero, Nat.reduceAdd]
      refine wM_val ?ub4 rfl rfl Ext.refl (fun w' hD => ?hb4) (fun phb4 => ?nb4)
      case hb4 =>
        obtain ⟨q0, q1, q2, q3, q4, q5, z0, z1, z2⟩ := FX.out w' (hx.trans hD.1)
        have gm := FM.out w' hD.1
        go_simp; rfl
      simp only [Act.put, List.setIfInBounds_toArray, List.set_cons_succ, List.set_cons_zero, Nat.reduceAdd]
      refine wM_val ?ub5 rfl rfl Ext.refl (fun w' hD => ?hb5) (fun phb5 => ?nb5)
      case hb5 =>
        obtain ⟨q0, q1, q2, q3, q4, q5, z0, z1, z2⟩ := FX.out w' (hx.trans hD.1)
        have gm := FM.out w' hD.1
        go_simp; rfl
      simp only [Act.put, List.setIfInBounds_toArray, List.set_cons_succ, List.set_cons_zero, Nat.reduceAdd]
      refine wM_val ?ub6 rfl rfl Ext.refl (fun w' hD => ?hb6) (fun phb6 => ?nb6)
      case hb6 =>
        obtain ⟨q0, q1, q2, q3, q4, q5, z0, z1, z2⟩ := FX.out w' (hx.trans hD.1)
        have gm := FM.out w' hD.1
        go_simp; rfl
      simp only [Act.put, List.setIfInBounds_toArray, List.set_cons_succ, List.set_cons_zero, Nat.reduceAdd]
      refine wM_val ?ub7 rfl rfl Ext.refl (fun w' hD => ?hb7) (fun phb7 => ?nb7)
      case hb7 =>
        obtain ⟨q0, q1, q2, q3, q4, q5, z0, z1, z2⟩ := FX.out w' (hx.trans hD.1)
        have gm := FM.out w' hD.1
        go_simp; rfl
      simp only [Act.put, List.setIfInBounds_toArray, List.set_cons_succ, List.set_cons_zero, Nat.reduceAdd]
      refine wM_val ?ub8 rfl rfl Ext.refl (fun w' hD => ?hb8) (fun phb8 => ?nb8)
      case hb8 =>
        obtain ⟨q0, q1, q2, q3, q4, q5, z0, z1, z2⟩ := FX.out w' (hx.trans hD.1)
        have gm := FM.out w' hD.1
        go_simp; rfl
      simp only [Act.put, List.setIfInBounds_toArray, List.set_cons_succ, List.set_cons_zero, Nat.reduceAdd]
      refine wM_op _ rfl rfl (opens_call ?fb9 ?gb9 (fun w' hD => ?hb9) (fun w' hD => ?cb9)) (fun v9 hv9 => ?nb9)
      case hb9 => go_simp; constructor <;> rfl
      case cb9 =>
        refine (refhears_any _ f pn xn x.lo w' (HFF.out w' (hx.trans hD.1)) HOK.out hpn (by omega)).mono ?_
        rintro e w2 ⟨rfl, hb⟩
        exact ⟨_, rfl, hb, by rw [HHH.out]⟩
      obtain ⟨_, -, -, rfl⟩ := hv9
      simp only [Act.put, List.setIfInBounds_toArray, List.set_cons_succ, List.set_cons_zero, Nat.reduceAdd]
      refine wM_nil ?_
      intro w10 hw10 hF9
      clear hF9
      cases HQ
      · have HM1 : Hid ((LN.take (j + 1)).all (heardM (farM f) x) = false) := by unfold Hid; rw [HN1.out]; simp
        have HM2 : Hid ((!(LN.take (j + 1)).any (heardM (farM f) x)) = P2) := by unfold Hid; rw [HN2.out, Bool.or_false]; exact HP2.out
        clear HN1 HN2
        go_wp2
        go_roundw
        case rel => exact ⟨j + 1, by omega, by go_num, by rw [HM1.out], by rw [HM2.out], hx.trans hw10, hx9.trans hw10⟩
        case measure => simp [intOf]; omega
      · have HM1 : Hid ((LN.take (j + 1)).all (heardM (farM f) x) = P1) := by unfold Hid; rw [HN1.out, Bool.and_true]; exact HP1.out
        have HM2 : Hid ((!(LN.take (j + 1)).any (heardM (farM f) x)) = false) := by unfold Hid; rw [HN2.out]; simp
        clear HN1 HN2
        go_wp2
        go_roundw
        case rel => exact ⟨j + 1, by omega, by go_num, by rw [HM1.out], by rw [HM2.out], hx.trans hw10, hx9.trans hw10⟩
        case measure => simp [intOf]; omega
    · have hlt' : ¬ (j : Int) < (LN.length : Int) := by omega
      have HE : Hid ((LN.take j).all (heardM (farM f) x) = AA ∧ (!(LN.take j).any (heardM (farM f) x)) = NN) := by
        unfold Hid
        rw [List.take_of_length_le (by omega)]
        exact ⟨HAA.out, HNN.out⟩
      rw [HE.out.1, HE.out.2]
      have hnl : (natI LN).length = LN.length := natI_len _
      rw [hnl]
      clear hnl
      go_wp2
      go_ret2
      exact ⟨rfl, hx0.trans hx⟩
end Go.Proofs.YtpbpcplboikpcaaGreat
