/- The walk of fog.Check. Printed by my gen_fchk4.py. -/
import Derived.Test.YtlonpgbapiemcaaGreatFChk3
namespace Go.Proofs.YtlonpgbapiemcaaGreat
open Go Go.RowKit Go.Shelf
set_option linter.unusedVariables false
set_option linter.unusedSimpArgs false

/-- What the walk reads again and again: the fog's box, that of its sands, and the method value. -/
structure ChkF (w : World) (B P S : Nat) (s : Ads) (f : Fg) : Prop where
  fog : FCell w B s f
  place : w.cell? ⟨P, 0, none⟩ = some (.func (.func 44) #[s.val f] #[])
  s0 : w.cell? ⟨S, 0, none⟩ = some (.int .i64 f.pl)
  s1 : w.cell? ⟨S, 1, none⟩ = some (.int .i64 f.mi)
  s2 : w.cell? ⟨S, 2, none⟩ = some (.slice s.a1 f.tr.length s.c1)
  rows : FRows w s f
theorem ChkF.ext {w w' : World} {B P S : Nat} {s : Ads} {f : Fg} (h : ChkF w B P S s f) (hx : Ext w w') : ChkF w' B P S s f := ⟨h.fog.ext hx, hx.cell h.place, hx.cell h.s0, hx.cell h.s1, hx.cell h.s2, h.rows.ext hx⟩

set_option maxRecDepth 100000 in
set_option maxHeartbeats 4000000 in
theorem check_any (v : Value) (f : Fg) (w : World) (hf : FgR w v f) (hs : f.sized) :
    Calls Tryz.prog 20 #[v] w fun e w' => e = .returned (.int .i64 (checkF f)) ∧ Ext w w' := by
  obtain ⟨s, rfl, hr⟩ := hf.rows
  clear hf
  have hr0 := hr
  obtain ⟨T, hT⟩ : ∃ T, checkF f = T := ⟨_, rfl⟩
  have HT := hid hT
  rw [hT]
  clear hT
  obtain ⟨z1, z2, z3, z4⟩ := hs
  have HZ := hid z4
  clear z4
  obtain ⟨V, hV⟩ : ∃ V, s.val f = V := ⟨_, rfl⟩
  have hV2 : V = .agg #[.int .i64 f.pl, .int .i64 f.mi, .slice s.a1 f.tr.length s.c1, .slice s.a2 f.bl.length s.c2, .slice s.a3 f.ct.length s.c3] := hV.symm
  have HV := hid hV
  rw [hV, hV2]
  clear hV
  go_enter Tryz.func20, Tryz.ntmps20
  go_upto_region 1 with fail
  go_cut [3, 4] (fun s3 s4 wx => ∃ B3 B4, s3 = .pointer (some ⟨B3, 0, none⟩) ∧ s4 = .pointer (some ⟨B4, 0, none⟩) ∧ Ext w wx ∧ ChkF wx w.heap.size B3 B4 s f)
  case first =>
    go_region
    · go_wp2_with fail
      go_meet
      have X1 : Ext w (((w.alloc (.cells #[.int .i64 f.pl, .int .i64 f.mi, .slice s.a1 f.tr.length s.c1, .slice s.a2 f.bl.length s.c2, .slice s.a3 f.ct.length s.c3] 29)).alloc (.cells #[.func (.func 44) #[.agg #[.int .i64 f.pl, .int .i64 f.mi, .slice s.a1 f.tr.length s.c1, .slice s.a2 f.bl.length s.c2, .slice s.a3 f.ct.length s.c3]] #[]] 97)).alloc (.cells #[.int .i64 f.pl, .int .i64 f.mi, .slice s.a1 f.tr.length s.c1] 25)).drew := (((Ext.refl w).alloc _).alloc _ |>.alloc _).drew
      refine ⟨_, _, rfl, rfl, X1, ⟨⟨?_, ?_, ?_, ?_, ?_⟩, ?_, ?_, ?_, ?_, hr0.ext X1⟩⟩
      case refine_6 => rw [HV.out, hV2]; simp [go_sem]
      all_goals simp [go_sem]
    · go_wp2_with fail
      go_meet
      have X1 : Ext w (((w.alloc (.cells #[.int .i64 f.pl, .int .i64 f.mi, .slice s.a1 f.tr.length s.c1, .slice s.a2 f.bl.length s.c2, .slice s.a3 f.ct.length s.c3] 29)).alloc (.cells #[.int .i64 f.pl, .int .i64 f.mi, .slice s.a1 f.tr.length s.c1] 25)).alloc (.cells #[.func (.func 44) #[.agg #[.int .i64 f.pl, .int .i64 f.mi, .slice s.a1 f.tr.length s.c1, .slice s.a2 f.bl.length s.c2, .slice s.a3 f.ct.length s.c3]] #[]] 97)).drew := (((Ext.refl w).alloc _).alloc _ |>.alloc _).drew
      refine ⟨_, _, rfl, rfl, X1, ⟨⟨?_, ?_, ?_, ?_, ?_⟩, ?_, ?_, ?_, ?_, hr0.ext X1⟩⟩
      case refine_6 => rw [HV.out, hV2]; simp [go_sem]
      all_goals simp [go_sem]
  case rest =>
    obtain ⟨B3, B4, rfl, rfl, hx, hc⟩ := hcut
    clear hr hr0
    have HC := hid hc
    clear hc
    obtain ⟨⟨a0, a1, a2, a3, a4⟩, p0, t0, t1, t2, hR⟩ := HC.out
    rw [HV.out, hV2] at p0
    go_wp2_with fail
    refine (in_any _ _ _ _).mono ?_
    rintro e w1 ⟨rfl, rfl⟩
    cases hq1 : inB f.pl 1 8
    · have H : Hid (T = 2) := by unfold Hid; rw [← HT.out]; simp [checkF, manyF, hq1]
      go_wp2
      go_ret
      exact ⟨ret_of (int_of H.out.symm), hx⟩
    have e1 := inB_iff.1 hq1
    go_wp2_with fail
    refine (in_any _ _ _ _).mono ?_
    rintro e w1 ⟨rfl, rfl⟩
    cases hq2 : inB f.mi 0 8
    · have H : Hid (T = 2) := by unfold Hid; rw [← HT.out]; simp [checkF, manyF, hq2]
      go_wp2
      go_ret
      exact ⟨ret_of (int_of H.out.symm), hx⟩
    have e2 := inB_iff.1 hq2
    by_cases hq3 : f.tr.length ≤ 14
    case neg =>
      have hq' : (14 : Int) < (f.tr.length : Int) := by omega
      have H : Hid (T = 2) := by unfold Hid; rw [← HT.out]; simp [checkF, manyF, hq3]
      clear hq3
      go_wp2
      go_ret
      exact ⟨ret_of (int_of H.out.symm), hx⟩
    have hq3' : ¬ (14 : Int) < (f.tr.length : Int) := by omega
    by_cases hq4 : f.bl.length ≤ 8
    case neg =>
      have hq' : (8 : Int) < (f.bl.length : Int) := by omega
      have H : Hid (T = 2) := by unfold Hid; rw [← HT.out]; simp [checkF, manyF, hq4]
      clear hq4
      go_wp2
      go_ret
      exact ⟨ret_of (int_of H.out.symm), hx⟩
    have hq4' : ¬ (8 : Int) < (f.bl.length : Int) := by omega
    go_wp2_with fail
    refine (in_any _ _ _ _).mono ?_
    rintro e w1 ⟨rfl, rfl⟩
    cases hq5 : inB (f.ct.length : Int) 1 3
    · have H : Hid (T = 2) := by unfold Hid; rw [← HT.out]; simp [checkF, manyF, hq5]
      go_wp2
      go_ret
      exact ⟨ret_of (int_of H.out.symm), hx⟩
    go_wp2_with fail
    refine (every_cart s.a3 s.c3 f.ct _ _ _ _ hR.ct (by omega) (fun x hx => by have := (HZ.out x hx).2; omega) (check1_fn _)).mono ?_
    rintro e w6 ⟨rfl, hb6⟩
    have hx := hx.trans hb6
    have HC := hid (HC.out.ext hb6)
    clear a0 a1 a2 a3 a4 p0 t0 t1 t2 hR
    cases hq6 : f.ct.all fun c => decide (c.rp.length ≤ 8)
    case false =>
      have H : Hid (T = 2) := by unfold Hid; rw [← HT.out]; simp only [checkF, manyF, hq1, hq2, hq3, hq4, hq5, hq6]; simp
      clear hq6
      obtain ⟨⟨a0, a1, a2, a3, a4⟩, p0, t0, t1, t2, hR⟩ := HC.out
      go_wp2
      go_ret
      exact ⟨ret_of (int_of H.out.symm), hx⟩
    obtain ⟨⟨a0, a1, a2, a3, a4⟩, p0, t0, t1, t2, hR⟩ := HC.out
    rw [HV.out, hV2] at p0
    have HM : Hid (manyF f = true) := by unfold Hid; simp only [manyF, hq1, hq2, hq5, hq6]; simp [hq3, hq4]
    have hp8 := e1.2
    have hp1 := e1.1
    have HM8 := hid (manyF_parts HM.out).2.2.2.2.2.2.2.2
    clear hq1 hq2 hq5 hq6 e1 e2
    go_wp2_with fail
    refine (every_blast s.a2 s.c2 f.bl _ anyx _ _ hR.bl (by omega) (anyx_all _) (check2_fn _ w.heap.size s f HC.out.fog hR)).mono ?_
    rintro e w7 ⟨rfl, hb7⟩
    have hx := hx.trans hb7
    have HC := hid (HC.out.ext hb7)
    clear a0 a1 a2 a3 a4 p0 t0 t1 t2 hR
    cases hq7 : f.bl.all fun b => inB b.lo 0 7 && miOK f b.mi
    case false =>
      have H : Hid (T = 3) := by unfold Hid; rw [← HT.out]; simp only [checkF, HM.out, limF, hq7]; simp
      clear hq7
      obtain ⟨⟨a0, a1, a2, a3, a4⟩, p0, t0, t1, t2, hR⟩ := HC.out
      go_wp2
      go_ret
      exact ⟨ret_of (int_of H.out.symm), hx⟩
    obtain ⟨⟨a0, a1, a2, a3, a4⟩, p0, t0, t1, t2, hR⟩ := HC.out
    rw [HV.out, hV2] at p0
    have HL : Hid (limF f = true) := hid hq7
    clear hq7
    go_wp2_with fail
    refine (every_pair s.a1 s.c1 f.tr _ anyx _ _ hR.tr (by omega) (anyx_all _) (check3_fn _ f _ B3 (FRows.fg hR) hp1 hp8 HC.out.place)).mono ?_
    rintro e w8 ⟨rfl, hb8⟩
    have hx := hx.trans hb8
    have HC := hid (HC.out.ext hb8)
    clear a0 a1 a2 a3 a4 p0 t0 t1 t2 hR
    cases hq8 : f.tr.all fun t => plOK f t.1 && plOK f t.2
    case false =>
      have H : Hid (T = 1) := by unfold Hid; rw [← HT.out]; simp only [checkF, HM.out, HL.out, trF, hq8]; simp
      clear hq8
      obtain ⟨⟨a0, a1, a2, a3, a4⟩, p0, t0, t1, t2, hR⟩ := HC.out
      go_wp2
      go_ret
      exact ⟨ret_of (int_of H.out.symm), hx⟩
    obtain ⟨⟨a0, a1, a2, a3, a4⟩, p0, t0, t1, t2, hR⟩ := HC.out
    rw [HV.out, hV2] at p0
    have H8 : Hid (trF f = true) := hid hq8
    clear hq8
    go_wp2_with fail
    refine (every_blast s.a2 s.c2 f.bl _ anyx _ _ hR.bl (by omega) (anyx_all _) (check4_fn _ f _ B3 (FRows.fg hR) hp1 hp8 HC.out.place)).mono ?_
    rintro e w9 ⟨rfl, hb9⟩
    have hx := hx.trans hb9
    have HC := hid (HC.out.ext hb9)
    clear a0 a1 a2 a3 a4 p0 t0 t1 t2 hR
    cases hq9 : f.bl.all fun b => plOK f b.pl
    case false =>
      have H : Hid (T = 1) := by unfold Hid; rw [← HT.out]; simp only [checkF, HM.out, HL.out, H8.out, bpF, hq9]; simp
      clear hq9
      obtain ⟨⟨a0, a1, a2, a3, a4⟩, p0, t0, t1, t2, hR⟩ := HC.out
      go_wp2
      go_ret
      exact ⟨ret_of (int_of H.out.symm), hx⟩
    obtain ⟨⟨a0, a1, a2, a3, a4⟩, p0, t0, t1, t2, hR⟩ := HC.out
    rw [HV.out, hV2] at p0
    have H9 : Hid (bpF f = true) := hid hq9
    clear hq9
    go_wp2_with fail
    refine (every_cart s.a3 s.c3 f.ct _ _ _ _ hR.ct (by omega) (fun x hx => by have := HZ.out x hx; omega) (check5_fn _ _ B3 w.heap.size s f HC.out.fog hR (FRows.fg hR) hp1 hp8 (by omega) HC.out.place)).mono ?_
    rintro e w10 ⟨rfl, hb10⟩
    have hx := hx.trans hb10
    have HC := hid (HC.out.ext hb10)
    clear a0 a1 a2 a3 a4 p0 t0 t1 t2 hR
    cases hq10 : f.ct.all fun c => c.st.all (plOK f) && c.rp.all fun r => blOK f r.bl
    case false =>
      have H : Hid (T = 1) := by unfold Hid; rw [← HT.out]; simp only [checkF, HM.out, HL.out, H8.out, H9.out, ctF, hq10]; simp
      clear hq10
      obtain ⟨⟨a0, a1, a2, a3, a4⟩, p0, t0, t1, t2, hR⟩ := HC.out
      go_wp2
      go_ret
      exact ⟨ret_of (int_of H.out.symm), hx⟩
    obtain ⟨⟨a0, a1, a2, a3, a4⟩, p0, t0, t1, t2, hR⟩ := HC.out
    rw [HV.out, hV2] at p0
    have H10 : Hid (ctF f = true) := hid hq10
    clear hq10
    go_wp2_with fail
    refine (every_pair s.a1 s.c1 f.tr _ anyx _ _ hR.tr (by omega) (anyx_all _) (check6_fn _)).mono ?_
    rintro e w11 ⟨rfl, hb11⟩
    have hx := hx.trans hb11
    have HC := hid (HC.out.ext hb11)
    clear a0 a1 a2 a3 a4 p0 t0 t1 t2 hR
    cases hq11 : f.tr.all fun t => t.1 != t.2
    case false =>
      have H : Hid (T = 8) := by unfold Hid; rw [← HT.out]; simp only [checkF, HM.out, HL.out, H8.out, H9.out, H10.out, difF, hq11]; simp
      clear hq11
      obtain ⟨⟨a0, a1, a2, a3, a4⟩, p0, t0, t1, t2, hR⟩ := HC.out
      go_wp2
      go_ret
      exact ⟨ret_of (int_of H.out.symm), hx⟩
    obtain ⟨⟨a0, a1, a2, a3, a4⟩, p0, t0, t1, t2, hR⟩ := HC.out
    rw [HV.out, hV2] at p0
    have H11 : Hid (difF f = true) := hid hq11
    clear hq11
    go_wp2_with fail
    refine (again_pair s.a1 s.c1 f.tr 78 anyx sameT _ hR.tr (by omega) (anyx_all _) (check7_fn _) hR.cap.1).mono ?_
    rintro e w12 ⟨rfl, hb12⟩
    have hx := hx.trans hb12
    have HC := hid (HC.out.ext hb12)
    clear a0 a1 a2 a3 a4 p0 t0 t1 t2 hR
    cases hq12 : againL sameT [] f.tr
    case true =>
      have H : Hid (T = 5) := by unfold Hid; rw [← HT.out]; simp only [checkF, HM.out, HL.out, H8.out, H9.out, H10.out, H11.out, agT, hq12]; simp
      clear hq12
      obtain ⟨⟨a0, a1, a2, a3, a4⟩, p0, t0, t1, t2, hR⟩ := HC.out
      go_wp2
      go_ret
      exact ⟨ret_of (int_of H.out.symm), hx⟩
    obtain ⟨⟨a0, a1, a2, a3, a4⟩, p0, t0, t1, t2, hR⟩ := HC.out
    rw [HV.out, hV2] at p0
    have H12 : Hid (agT f = false) := hid hq12
    clear hq12
    go_wp2_with fail
    refine (every_cart s.a3 s.c3 f.ct _ _ _ _ hR.ct (by omega) (fun x hx => HM8.out x hx) (check8_fn _)).mono ?_
    rintro e w13 ⟨rfl, hb13⟩
    have hx := hx.trans hb13
    have HC := hid (HC.out.ext hb13)
    clear a0 a1 a2 a3 a4 p0 t0 t1 t2 hR
    cases hq13 : f.ct.all fun c => !againL sameR [] c.rp
    case false =>
      have H : Hid (T = 5) := by unfold Hid; rw [← HT.out]; simp only [checkF, HM.out, HL.out, H8.out, H9.out, H10.out, H11.out, H12.out, agR, hq13]; simp
      clear hq13
      obtain ⟨⟨a0, a1, a2, a3, a4⟩, p0, t0, t1, t2, hR⟩ := HC.out
      go_wp2
      go_ret
      exact ⟨ret_of (int_of H.out.symm), hx⟩
    obtain ⟨⟨a0, a1, a2, a3, a4⟩, p0, t0, t1, t2, hR⟩ := HC.out
    rw [HV.out, hV2] at p0
    have H13 : Hid (agR f = true) := hid hq13
    clear hq13
    go_wp2_with fail
    refine (every_cart s.a3 s.c3 f.ct _ _ _ _ hR.ct (by omega) (fun x hx => by have := HZ.out x hx; omega) (check9_fn _)).mono ?_
    rintro e w14 ⟨rfl, hb14⟩
    have hx := hx.trans hb14
    have HC := hid (HC.out.ext hb14)
    clear a0 a1 a2 a3 a4 p0 t0 t1 t2 hR
    cases hq14 : f.ct.all fun c => decide (0 < c.st.length)
    case false =>
      have H : Hid (T = 6) := by unfold Hid; rw [← HT.out]; simp only [checkF, HM.out, HL.out, H8.out, H9.out, H10.out, H11.out, H12.out, H13.out, neF, hq14]; simp
      clear hq14
      obtain ⟨⟨a0, a1, a2, a3, a4⟩, p0, t0, t1, t2, hR⟩ := HC.out
      go_wp2
      go_ret
      exact ⟨ret_of (int_of H.out.symm), hx⟩
    obtain ⟨⟨a0, a1, a2, a3, a4⟩, p0, t0, t1, t2, hR⟩ := HC.out
    rw [HV.out, hV2] at p0
    have H14 : Hid (neF f = true) := hid hq14
    have HNE : Hid (∀ x, x ∈ f.ct → 0 < x.st.length) := fun x hx => by simpa using List.all_eq_true.1 hq14 x hx
    clear hq14
    go_wp2_with fail
    refine (every_cart s.a3 s.c3 f.ct _ _ _ _ hR.ct (by omega) (fun x hx => ⟨HNE.out x hx, (HZ.out x hx).1⟩) (check10_fn _)).mono ?_
    rintro e w15 ⟨rfl, hb15⟩
    have hx := hx.trans hb15
    have HC := hid (HC.out.ext hb15)
    clear a0 a1 a2 a3 a4 p0 t0 t1 t2 hR
    cases hq15 : f.ct.all fun c => ascL c.st
    case false =>
      have H : Hid (T = 4) := by unfold Hid; rw [← HT.out]; simp only [checkF, HM.out, HL.out, H8.out, H9.out, H10.out, H11.out, H12.out, H13.out, H14.out, ordF, hq15]; simp
      clear hq15
      obtain ⟨⟨a0, a1, a2, a3, a4⟩, p0, t0, t1, t2, hR⟩ := HC.out
      go_wp2
      go_ret
      exact ⟨ret_of (int_of H.out.symm), hx⟩
    obtain ⟨⟨a0, a1, a2, a3, a4⟩, p0, t0, t1, t2, hR⟩ := HC.out
    rw [HV.out, hV2] at p0
    have H : Hid (T = 0) := by unfold Hid; rw [← HT.out]; simp only [checkF, HM.out, HL.out, H8.out, H9.out, H10.out, H11.out, H12.out, H13.out, H14.out, ordF, hq15]; simp
    clear hq15
    go_wp2
    go_ret
    exact ⟨ret_of (int_of H.out.symm), hx⟩
end Go.Proofs.YtlonpgbapiemcaaGreat
