/- The walk of the reference's Met. Printed by my gen_fref17.py. -/
import Derived.Test.YtpbpcplboikpcaaGreatG9
import Derived.Test.YtpbpcplboikpcaaGreatFMet
namespace Go.Proofs.YtpbpcplboikpcaaGreat
open Go Go.RowKit Go.Shelf
set_option linter.unusedVariables false
set_option linter.unusedSimpArgs false

def RefMetPost (w : World) (L : List Int) (e : Ending) (w' : World) : Prop := ∃ A q, e = .returned (.slice A L.length q) ∧ Ext w w' ∧ Ints w' A L
def metIn (f : Fg) (c d : Ct) (m p : Nat) : Bool := (List.range p).any fun q => inCan (farM f) f c m q && inCan (farM f) f d m q
theorem metIn_next (f : Fg) (c d : Ct) (m p : Nat) : metIn f c d m (p + 1) = (metIn f c d m p || (inCan (farM f) f c m p && inCan (farM f) f d m p)) := by
  unfold metIn; rw [List.range_succ, List.any_append]; simp
theorem metIn_all {f : Fg} {c d : Ct} {m : Nat} (hm : m ≤ f.mi.toNat) : metIn f c d m f.pl.toNat = metAt (farM f) f c d m := met_is hm
set_option maxRecDepth 100000 in
set_option maxHeartbeats 8000000 in
theorem refmet_any (v : Value) (f : Fg) (k k2 : Nat) (c d : Ct) (w : World) (hf : RgR w v f (distL f)) (hs : f.sized) (hok : FogOK f) (hc : f.ct[k]? = some c) (hd2 : f.ct[k2]? = some d) :
    Calls Tryz.prog 54 #[v, .int .i64 (k : Int), .int .i64 (k2 : Int)] w (RefMetPost w (metM (farM f) f c d)) := by
  obtain ⟨Mi, hMi⟩ : ∃ Mi : Nat, f.mi.toNat = Mi := ⟨_, rfl⟩
  obtain ⟨P, hP⟩ : ∃ P : Nat, f.pl.toNat = P := ⟨_, rfl⟩
  have HMI := hid hMi
  have HP := hid hP
  have hmv : metM (farM f) f c d = metTo f c d (Mi + 1) := by rw [← hMi]; rfl
  obtain ⟨MV, hMV⟩ : ∃ MV, metM (farM f) f c d = MV := ⟨_, rfl⟩
  rw [hMV]
  have HMV : Hid (MV = metTo f c d (Mi + 1)) := hMV.symm.trans hmv
  have hmi := hok.mi
  have hpl := hok.pl
  have HMJ : Hid (f.mi = (Mi : Int)) := by unfold Hid; omega
  have HPJ : Hid (f.pl = (P : Int)) := by unfold Hid; omega
  have hMi8 : Mi ≤ 8 := by omega
  have hP8 : P ≤ 8 := by omega
  have HFF0 := hid hf
  obtain ⟨s, A4, c4, rfl, hr, hd⟩ := hf
  have HOK := hid hok
  have HC := hid hc
  have HC2 := hid hd2
  have HS := hid hs
  obtain ⟨W0, hW0⟩ : ∃ W0, w.alloc (.cells #[.int .i64 f.pl, .int .i64 f.mi, .slice s.a1 f.tr.length s.c1, .slice s.a2 f.bl.length s.c2, .slice s.a3 f.ct.length s.c3, .slice A4 (distL f).length c4] 37) = W0 := ⟨_, rfl⟩
  have hx0 : Ext w W0 := by rw [← hW0]; exact Ext.alloc (Ext.refl w) _
  have FX : Hid (∀ w', Ext W0 w' → w'.cell? ⟨w.heap.size, 0, none⟩ = some (.int .i64 f.pl) ∧ w'.cell? ⟨w.heap.size, 1, none⟩ = some (.int .i64 f.mi) ∧ w'.cell? ⟨w.heap.size, 2, none⟩ = some (.slice s.a1 f.tr.length s.c1) ∧ w'.cell? ⟨w.heap.size, 3, none⟩ = some (.slice s.a2 f.bl.length s.c2) ∧ w'.cell? ⟨w.heap.size, 4, none⟩ = some (.slice s.a3 f.ct.length s.c3) ∧ w'.cell? ⟨w.heap.size, 5, none⟩ = some (.slice A4 (distL f).length c4)) := fun w' h => ⟨h.cell (by rw [← hW0]; simp [go_sem]), h.cell (by rw [← hW0]; simp [go_sem]), h.cell (by rw [← hW0]; simp [go_sem]), h.cell (by rw [← hW0]; simp [go_sem]), h.cell (by rw [← hW0]; simp [go_sem]), h.cell (by rw [← hW0]; simp [go_sem])⟩
  have HFF : Hid (∀ w', Ext W0 w' → RgR w' (.agg #[.int .i64 f.pl, .int .i64 f.mi, .slice s.a1 f.tr.length s.c1, .slice s.a2 f.bl.length s.c2, .slice s.a3 f.ct.length s.c3, .slice A4 (distL f).length c4]) f (distL f)) := fun w' h => HFF0.out.ext (hx0.trans h)
  unfold rval
  have HE0 := hid hW0
  clear hr hd hc hd2 hok hs hMi hP hmv hMV hW0 HFF0
  go_enter Tryz.func54, Tryz.ntmps54
  go_upto_region 1 with fail
  try rw [HE0.out]
  clear HE0
  refine wp_region_shut_tail Ext (fun w' => Ext W0 w') (fun
    | 2 => some (fun v w' => ∃ A k, v = .slice (some A) (f.mi.toNat + 1) k ∧ IntRows w' (some A) (canL (farM f) f c))
    | 5 => some (fun v w' => ∃ A k, v = .slice (some A) (f.mi.toNat + 1) k ∧ IntRows w' (some A) (canL (farM f) f d))
    | _ => none) 6 (by kernel_rfl) (by kernel_rfl) (fun _ _ h k => h.trans k) ?hTa (Ext.drew (Ext.refl W0)) ?_
  case hTa =>
    intro i R hR
    match i, hR with
    | 2, hR => cases hR; exact fun _ _ _ ⟨A, k', e, h⟩ k => ⟨A, k', e, h.ext k⟩
    | 5, hR => cases hR; exact fun _ _ _ ⟨A, k', e, h⟩ k => ⟨A, k', e, h.ext k⟩
  refine wM_val ?ua0 rfl rfl Ext.refl (fun w' hD => ?ha0) (fun pha0 => ?na0)
  case ha0 =>
    obtain ⟨q0, q1, q2, q3, q4, q5⟩ := FX.out w' hD.1
    go_simp; rfl
  simp only [Act.put, List.setIfInBounds_toArray, List.set_cons_succ, List.set_cons_zero, Nat.reduceAdd]
  refine wM_val ?ua1 rfl rfl Ext.refl (fun w' hD => ?ha1) (fun pha1 => ?na1)
  case ha1 =>
    obtain ⟨q0, q1, q2, q3, q4, q5⟩ := FX.out w' hD.1
    go_simp; rfl
  simp only [Act.put, List.setIfInBounds_toArray, List.set_cons_succ, List.set_cons_zero, Nat.reduceAdd]
  refine wM_op _ rfl rfl (opens_call ?fa2 ?ga2 (fun w' hD => ?ha2) (fun w' hD => ?ca2)) (fun v2 hv2 => ?na2)
  case ha2 => go_simp; constructor <;> rfl
  case ca2 =>
    refine (refcan_any _ f k c w' (HFF.out w' hD.1) HS.out HOK.out HC.out).mono ?_
    rintro e w2 ⟨A, kk, rfl, hb, hI, -⟩
    exact ⟨_, rfl, hb, A, kk, rfl, hI⟩
  obtain ⟨_, -, -, Ac, kc, rfl, -⟩ := hv2
  simp only [Act.put, List.setIfInBounds_toArray, List.set_cons_succ, List.set_cons_zero, Nat.reduceAdd]
  refine wM_val ?ua3 rfl rfl Ext.refl (fun w' hD => ?ha3) (fun pha3 => ?na3)
  case ha3 =>
    obtain ⟨q0, q1, q2, q3, q4, q5⟩ := FX.out w' hD.1
    go_simp; rfl
  simp only [Act.put, List.setIfInBounds_toArray, List.set_cons_succ, List.set_cons_zero, Nat.reduceAdd]
  refine wM_val ?ua4 rfl rfl Ext.refl (fun w' hD => ?ha4) (fun pha4 => ?na4)
  case ha4 =>
    obtain ⟨q0, q1, q2, q3, q4, q5⟩ := FX.out w' hD.1
    go_simp; rfl
  simp only [Act.put, List.setIfInBounds_toArray, List.set_cons_succ, List.set_cons_zero, Nat.reduceAdd]
  refine wM_op _ rfl rfl (opens_call ?fa5 ?ga5 (fun w' hD => ?ha5) (fun w' hD => ?ca5)) (fun v5 hv5 => ?na5)
  case ha5 => go_simp; constructor <;> rfl
  case ca5 =>
    refine (refcan_any _ f k2 d w' (HFF.out w' hD.1) HS.out HOK.out HC2.out).mono ?_
    rintro e w2 ⟨A, kk, rfl, hb, hI, -⟩
    exact ⟨_, rfl, hb, A, kk, rfl, hI⟩
  obtain ⟨_, -, -, Ad, kd, rfl, -⟩ := hv5
  simp only [Act.put, List.setIfInBounds_toArray, List.set_cons_succ, List.set_cons_zero, Nat.reduceAdd]
  refine wM_nil ?_
  intro w9 hw9 hF9
  obtain ⟨-, Ac', kc', e1, hIc⟩ := hF9 2
  cases e1
  obtain ⟨-, Ad', kd', e2, hId⟩ := hF9 5
  cases e2
  clear hF9
  rw [HMI.out]
  have HIC := hid hIc
  have HID := hid hId
  clear hIc hId
  simp only [List.drop_succ_cons, List.drop_zero]
  go_wp2_with fail
  go_loopw [10, 9] (fun i10 i9 wr => ∃ (m : Nat) (A : Option Addr) (ka : Nat), m ≤ Mi + 1 ∧ i10 = .int .i64 (m : Int) ∧ i9 = .slice A (metTo f c d m).length ka ∧ Hid (wr.ownsRow w9.heap.size 3 1 (.slice A (metTo f c d m).length ka) (metTo f c d m).length ((metTo f c d m).map (Value.int .i64))) ∧ Ext w9 wr) (fun i _ _ => Mi + 1 - (intOf i).toNat)
  case atStart => exact ⟨0, none, 0, Nat.zero_le _, rfl, rfl, own_nil _ _ _ _, Ext.refl _⟩
  case round =>
    obtain ⟨m, A, ka, hk, rfl, rfl, OA, hx⟩ := hrel
    have hll := metTo_len f c d m
    obtain ⟨q0, q1, q2, q3, q4, q5⟩ := FX.out wr (hw9.trans hx)
    by_cases hlt : m < Mi + 1
    · have hlt' : (m : Int) ≤ f.mi := by have := HMJ.out; omega
      have hmi2 : m ≤ f.mi.toNat := by rw [HMI.out]; omega
      have hm' : (m : Int) < (Mi : Int) + 1 := by omega
      obtain ⟨r1, o1, A7, k7, e7, g7, hI7, -⟩ := (HIC.out.ext hx).at_ (canL_get hmi2)
      obtain ⟨r2, o2, A8, k8, e8, g8, hI8, -⟩ := (HID.out.ext hx).at_ (canL_get hmi2)
      rw [e7, e8]
      have HI7 := hid hI7
      have HI8 := hid hI8
      have hl7 := (canN_lt (g := farM f) (c := c) hpl.2 m).2
      have hl8 := (canN_lt (g := farM f) (c := d) hpl.2 m).2
      clear hI7 hI8 e7 e8
      go_wp2_with fail
      obtain ⟨wo, hwo⟩ : ∃ wo, wo = wr := ⟨_, rfl⟩
      subst hwo
      go_loopw [12, 11] (fun i12 i11 wx => ∃ (p : Nat), p ≤ P ∧ i12 = .int .i64 (p : Int) ∧ i11 = .bool (metIn f c d m p) ∧ wo = wx) (fun i _ _ => P - (intOf i).toNat)
      case atStart => exact ⟨0, Nat.zero_le _, rfl, rfl, rfl⟩
      case round =>
        obtain ⟨p, hp, rfl, rfl, hxw⟩ := hrel
        subst hxw
        by_cases hlp : p < P
        · have hlp' : (p : Int) < f.pl := by have := HPJ.out; omega
          have HNX := hid (metIn_next f c d m p)
          obtain ⟨X1, hX1⟩ : ∃ X1, metIn f c d m p = X1 := ⟨_, rfl⟩
          rw [hX1]
          have HX1 := hid hX1
          clear hX1
          cases X1
          case true =>
            have HM : Hid (metIn f c d m (p + 1) = true) := by unfold Hid; rw [HNX.out, HX1.out]; rfl
            clear HNX
            go_wp2
            go_roundw
            case rel => exact ⟨p + 1, by omega, by go_num, by rw [HM.out], (by first | rfl | trivial)⟩
            case measure => simp [intOf]; omega
          have K := refhas_any A7 k7 (natI (canN (farM f) f c m)) (p : Int) _ HI7.out (by omega)
          obtain ⟨X2, hX2⟩ : ∃ X2, memI (p : Int) (natI (canN (farM f) f c m)) = X2 := ⟨_, rfl⟩
          rw [hX2] at K
          have HX2 : Hid (inCan (farM f) f c m p = X2) := hX2
          have HK := hid K
          clear K hX2
          go_wp2_with fail
          refine HK.out.mono ?_
          clear HK
          rintro e wz ⟨rfl, hz⟩
          subst hz
          cases X2
          case false =>
            have HM : Hid (metIn f c d m (p + 1) = false) := by unfold Hid; rw [HNX.out, HX1.out, HX2.out]; rfl
            clear HNX
            go_wp2
            go_roundw
            case rel => exact ⟨p + 1, by omega, by go_num, by rw [HM.out], (by first | rfl | trivial)⟩
            case measure => simp [intOf]; omega
          have K := refhas_any A8 k8 (natI (canN (farM f) f d m)) (p : Int) _ HI8.out (by omega)
          obtain ⟨X3, hX3⟩ : ∃ X3, memI (p : Int) (natI (canN (farM f) f d m)) = X3 := ⟨_, rfl⟩
          rw [hX3] at K
          have HM : Hid (metIn f c d m (p + 1) = X3) := by
            have h3 : inCan (farM f) f d m p = X3 := hX3
            unfold Hid; rw [HNX.out, HX1.out, HX2.out, h3]; cases X3 <;> rfl
          have HK := hid K
          clear K hX3 HNX
          go_wp2_with fail
          refine HK.out.mono ?_
          clear HK
          rintro e wz ⟨rfl, hz⟩
          subst hz
          go_wp2
          go_roundw
          case rel => exact ⟨p + 1, by omega, by go_num, by rw [HM.out], (by first | rfl | trivial)⟩
          case measure => simp [intOf]; omega
        · have hlp' : ¬ (p : Int) < f.pl := by have := HPJ.out; omega
          have hpe : p = P := by omega
          have HMA : Hid (metIn f c d m p = metAt (farM f) f c d m) := by unfold Hid; rw [hpe, ← HP.out]; exact metIn_all hmi2
          obtain ⟨MB, hMB⟩ : ∃ MB, metIn f c d m p = MB := ⟨_, rfl⟩
          rw [hMB]
          have HMB : Hid (metAt (farM f) f c d m = MB) := by unfold Hid; rw [← HMA.out, hMB]
          have HNX := hid (metTo_next f c d m)
          clear hMB HMA hpe
          cases MB
          · have HSM : Hid (metTo f c d (m + 1) = metTo f c d m) := by unfold Hid; rw [HNX.out, HMB.out]; simp
            clear HNX HMB
            go_wp2
            go_roundw
            case rel => exact ⟨m + 1, A, ka, by omega, by go_num, by rw [HSM.out], by rw [HSM.out]; exact OA, hx⟩
            case measure => simp [intOf]; omega
          · have HSM : Hid (metTo f c d (m + 1) = metTo f c d m ++ [(m : Int)]) := by unfold Hid; rw [HNX.out, HMB.out]; simp
            obtain ⟨W7, hW7⟩ : ∃ W7, wo.alloc (.cells #[.int .i64 (m : Int)] 3) = W7 := ⟨_, rfl⟩
            have hx7 : Ext wo W7 := by rw [← hW7]; exact Ext.alloc (Ext.refl _) _
            have HRD : Hid (Rd W7 (some ⟨wo.heap.size, 0, none⟩) [.int .i64 (m : Int)]) := .inr ⟨wo.heap.size, 0, rfl, fun j u hu => by
              match j, hu with
              | 0, hu => cases hu; rw [← hW7]; simp [go_sem]
              | j + 1, hu => simp at hu⟩
            have OW7 := hid (own_below OA.out hx7)
            have hxw7 := hid (hx.trans hx7)
            have hsz7 := hxw7.out.size
            have HNV : Hid ((metTo f c d m).map (Value.int .i64) ++ [.int .i64 (m : Int)] = (metTo f c d (m + 1)).map (Value.int .i64)) := by unfold Hid; rw [HSM.out]; simp
            have HLE : Hid ((metTo f c d (m + 1)).length = (metTo f c d m).length + 1) := by unfold Hid; rw [HSM.out]; simp
            have hnb : ((metTo f c d m).length + 1) * 8 ≤ 140737488355328 := by omega
            clear OA HNX HMB HSM
            go_wp2_with (at_builtin; (try rw [hW7]); refine wpList_append_rd2 _ rfl _ _ 42 rfl elem_int w9.heap.size _ (metTo f c d m).length ((metTo f c d m).map (Value.int .i64)) rfl OW7.out (some ⟨wo.heap.size, 0, none⟩) 1 1 [.int .i64 (m : Int)] rfl rfl HRD.out (by intro u hu; simp at hu; subst hu; rfl) hnb hsz7 ?_)
            intro A6 k6 W6 own6 hbel6 hgr6 hloc6
            rw [HNV.out] at own6
            have hxw6 : Ext w9 W6 := Ext.grown hxw7.out hgr6 (fun k e => (OW7.out.lt k e).1)
            have HO6 := hid own6
            clear own6 hloc6 hgr6 hbel6
            go_wp2
            go_roundw
            case rel => exact ⟨m + 1, A6, k6, by omega, by go_num, by rw [HLE.out], by rw [HLE.out]; exact HO6, hxw6⟩
            case measure => simp [intOf]; omega
    · have hlt' : ¬ (m : Int) ≤ f.mi := by have := HMJ.out; omega
      have hme : m = Mi + 1 := by omega
      subst hme
      go_wp2
      go_ret
      refine ⟨A, ka, ?_, (hx0.trans hw9).trans hx, ?_⟩
      · rw [HMV.out]; rfl
      · rw [HMV.out]; exact Rd.of_own OA.out
end Go.Proofs.YtpbpcplboikpcaaGreat
