/- The walk of BoilNamed. Printed by my gen_bnam.py. -/
import Derived.Test.YtjnobdcbbboeeaaGreatBNmD
import Derived.Test.YtjnobdcbbboeeaaGreatBFew2
import Derived.Test.YtjnobdcbbboeeaaGreatHa
import Derived.Test.YtjnobdcbbboeeaaGreatH6
import Derived.Test.YtjnobdcbbboeeaaGreatBSho
import Derived.Test.YtjnobdcbbboeeaaGreatBFal
import Derived.Test.YtjnobdcbbboeeaaGreatH2
import Derived.Deep.DeepCutAuto
import Derived.Deep.CutBlock
import Derived.Deep.QuietTactic
import Derived.Deep.RegionHeld3
import Derived.BigQuiet
namespace Go.Proofs.YtjnobdcbbboeeaaGreat
open Go Go.RowKit Go.Shelf Go.Maps
set_option linter.unusedVariables false
set_option linter.unusedSimpArgs false

set_option maxRecDepth 100000 in
set_option maxHeartbeats 16000000 in
theorem boilnamed_any (A : Option Addr) (l : List Int) (cap : Nat) (Aq : Option Addr) (lq : List Int) (capq : Nat) (w : World) (hA : Bytes w A l) (hl : ∀ x ∈ l, 0 ≤ x ∧ x ≤ 255) (hlt : ∀ x, A = some x → l = [] ∨ x.block < w.heap.size) (hn : l.length ≤ 9223372036854775807) (hAq : Bytes w Aq lq) (hlq : ∀ x ∈ lq, 0 ≤ x ∧ x ≤ 255) (hltq : ∀ x, Aq = some x → lq = [] ∨ x.block < w.heap.size) (hnq : lq.length ≤ 9223372036854775807) :
    Calls Tryz.prog 3 #[.slice A l.length cap, .slice Aq lq.length capq] w fun e w' => e = .returned (.bool true) ∧ Below w.heap.size w w' := by
  go_enter Tryz.func3, Tryz.ntmps3
  go_wp2_with fail
  refine (pile_any A l cap w hA hl hlt hn).mono ?_
  rintro e w1 ⟨D, rfl, hD, x1, hh1⟩
  go_wp2_with fail
  refine (made_any D 12 14 3 w1 hh1 (by decide) (by decide) (by decide) (by decide)).mono ?_
  rintro e w2 ⟨h, rl, Ah, ch, A2, c2, rfl, HM, hoh, hor, hb2, -⟩
  have x2 : Ext w w2 := Bel.extw x1 hb2 hD
  have k := HM.ok
  have HMD := hid HM
  have hr2 : HsR w2 (hval h Ah ch) h := hsr_own hoh
  have hOR := hid hor
  clear hoh hor hb2 hh1 x1 HM
  unfold hval
  go_upto_region 2 with fail
  obtain ⟨P2, hP2⟩ : ∃ P2, w2.alloc (.cells #[.int .i64 h.mo, .int .i64 h.pk, .slice Ah h.ws.length ch] 25) = P2 := ⟨_, rfl⟩
  have xp : Ext w2 P2 := by rw [← hP2]; exact Ext.alloc (Ext.refl _) _
  have bp : P2.heap[w2.heap.size]? = some (.cells #[.int .i64 h.mo, .int .i64 h.pk, .slice Ah h.ws.length ch] 25 (0, 0)) := by rw [← hP2]; exact heap_alloc_new _ _
  try rw [hP2]
  clear hP2
  have hx2 : Ext w P2 := x2.trans xp
  have FH : Hid (∀ w', Ext P2 w' → w'.cell? ⟨w2.heap.size, 0, none⟩ = some (.int .i64 h.mo) ∧ w'.cell? ⟨w2.heap.size, 1, none⟩ = some (.int .i64 h.pk) ∧ w'.cell? ⟨w2.heap.size, 2, none⟩ = some (.slice Ah h.ws.length ch)) := fun w' hx => by
    obtain ⟨q0, q1, q2, -⟩ := house_cells bp
    exact ⟨hx.cell q0, hx.cell q1, hx.cell q2⟩
  have HR : Hid (∀ w', Ext P2 w' → HsR w' (hval h Ah ch) h) := fun w' hx => (hr2.ext xp).ext hx
  have hs : h.sized := by unfold Hs.sized; have := k.len; omega
  have HK := hid k
  have hmo := k.mo
  have hpk := k.pk
  have hlen := k.len
  have hmz : h.mo ≠ 0 := by omega
  have HPR : Hid (∀ w', Ext P2 w' → Prs w' A2 rl) := fun w' hx => ((Rd.of_own hOR.out).ext xp).ext hx
  clear k bp hr2 x2 xp hOR
  obtain ⟨N, hN⟩ : ∃ N : Nat, h.ws.length = N := ⟨_, rfl⟩
  have HN := hid hN
  rw [hN] at FH hlen ⊢
  clear hN
  go_wp2_with fail
  refine (pile_any Aq lq capq P2 (hAq.ext hx2) hlq (fun x hx => (hltq x hx).imp id fun q => by have := hx2.size; omega) hnq).mono ?_
  rintro e w3 ⟨D2, rfl, hD2, hx3, hh3⟩
  clear hAq hlq hltq hnq hA hl hlt hn
  have NK := hid (nam_ok HMD.out)
  have HCK := hid (checkH_of HK.out)
  obtain ⟨FW, hFW⟩ : ∃ x, fewH h = x := ⟨_, rfl⟩
  obtain ⟨F, hF⟩ : ∃ F : Nat, FW.length = F := ⟨_, rfl⟩
  obtain ⟨LV, hLV⟩ : ∃ L : Nat, (falV h rl).length = L := ⟨_, rfl⟩
  obtain ⟨RL, hRL⟩ : ∃ L : Nat, rl.length = L := ⟨_, rfl⟩
  have HFW := hid hFW
  have HF := hid hF
  have HRL := hid hRL
  have hFL : F ≤ LV := by have := NK.out.lied; rw [hFW, hF, hLV] at this; exact this
  have hFN : F ≤ N := by have := NK.out.wL; rw [hFW, hF, HN.out] at this; omega
  have hrl12 : RL ≤ 1000 := by have := HMD.out.rl.len; have := HMD.out.mo; omega
  have KFE := fewest2_any _ h w3 (HR.out w3 hx3) hs
  rw [NK.out.fe, NK.out.fv, hFW, hF] at KFE
  unfold hval at KFE
  rw [HN.out] at KFE
  have KFE := hid KFE
  have KPR : Hid (∀ w', Ext P2 w' → _) := fun w' hx => proofx_any _ h w' (HR.out w' hx) hs
  have KFA : Hid (∀ w', Ext P2 w' → _) := fun w' hx => false_any _ h w' (HR.out w' hx) hs A2 c2 rl (HPR.out w' hx) (by rw [HRL.out]; omega)
  have KCH : Hid (∀ w', Ext P2 w' → _) := fun w' hx => check_any _ h w' (HR.out w' hx) hs
  have KCL : Hid (∀ (a b : Nat) w', a < N → b < N → Ext P2 w' → _) := fun a b w' ha hb hx => lclash_any _ h a b w' (HR.out w' hx) HK.out (by rw [HN.out]; exact ha) (by rw [HN.out]; exact hb)
  rw [NK.out.fa, hLV, hRL] at KFA
  rw [HCK.out] at KCH
  unfold PrfxPost at KPR
  rw [HCK.out] at KPR
  unfold hval at KPR KFA KCH KCL
  rw [HN.out] at KPR KFA KCH KCL
  rw [hRL]
  clear hFW hF hLV hRL hmo hpk hmz
  obtain ⟨c0, c1, c2'⟩ := FH.out w3 hx3
  go_wp2_with fail
  refine KFE.out.mono ?_
  rintro e w4 ⟨A8, k8, rfl, hx4, ho8⟩
  clear KFE c0 c1 c2'
  have h4 := hx3.trans hx4
  obtain ⟨c0, c1, c2'⟩ := FH.out w4 h4
  go_wp2_with fail
  refine (KPR.out w4 h4).mono ?_
  rintro e w5 ⟨A10, k10, pr, rfl, hx5, hpr, -, hgood⟩
  clear KPR c0 c1 c2'
  have h5 := h4.trans hx5
  have hx35 := hx4.trans hx5
  obtain ⟨hprl, hgood⟩ := hgood (by first | rfl | trivial)
  have hPL : pr.length = F := by rw [hprl, ← NK.out.len, HFW.out, HF.out]
  have HPL := hid hPL
  rw [hPL]
  have HGD := hid hgood
  have HPRS : Hid (∀ w', Ext w5 w' → Prs w' A10 pr) := fun w' hx => hpr.ext hx
  have HO8 := hid (own_below ho8 hx5)
  clear hprl hgood hPL hpr ho8
  obtain ⟨c0, c1, c2'⟩ := FH.out w5 h5
  go_wp2_with fail
  refine (KFA.out w5 h5).mono ?_
  rintro e w6 ⟨A12, k12, rfl, hx6, -⟩
  clear KFA c0 c1 c2'
  have h6 := h5.trans hx6
  have hx56 := hx6
  obtain ⟨c0, c1, c2'⟩ := FH.out w6 h6
  go_wp2_with fail
  refine (KCH.out w6 h6).mono ?_
  rintro e w7 ⟨rfl, hx7⟩
  clear  c0 c1 c2'
  have h7 := h6.trans hx7
  have hx57 := hx56.trans hx7
  have hFLn : ¬ (LV : Int) < (F : Int) := by omega
  have hFLm : ¬ LV < F := by omega
  have hFb : ((F : Int) != (F : Int)) = false := by simp
  have o7 := own_below HO8.out hx57
  have i7 : Ints w7 A8 FW := Rd.of_own o7
  have hFlt := NK.out.asc.lt
  rw [HFW.out] at hFlt
  have KIS := issorted_any A8 k8 FW w7 i7 (by rw [HF.out]; omega) hFlt
  rw [HF.out] at KIS
  have KIS := hid KIS
  clear hFlt i7
  go_wp2_with fail
  refine KIS.out.mono ?_
  rintro e w8 ⟨rfl, hx8⟩
  clear KIS hFLn hFLm hFb
  have h8 := h7.trans hx8
  have hx58 := hx57.trans hx8
  have o8 := own_below o7 hx8
  clear o7
  have hmm := @run_makeMap Tryz.prog
  obtain ⟨W9, hW9⟩ : ∃ W, (w8.alloc (.map #[] 0)).alloc (.map #[] 0) = W := ⟨_, rfl⟩
  have hx9 : Ext w8 W9 := by rw [← hW9]; exact (Ext.refl _).alloc _ |>.alloc _
  have hm1 : MapBl W9 w8.heap.size 0 [] := by
    have q := (MapBl.start w8).ext (w' := (w8.alloc (.map #[] 0)).alloc (.map #[] 0)) (Ext.alloc (Ext.refl _) _)
    rw [hW9] at q
    exact q
  have hm2 : MapBl W9 (w8.heap.size + 1) 0 [] := by
    have q := MapBl.start (w8.alloc (.map #[] 0))
    rw [World.size_alloc, hW9] at q
    exact q
  go_upto_region 9 with fail
  try rw [hW9]
  obtain ⟨M1, hM1⟩ : ∃ b, w8.heap.size = b := ⟨_, rfl⟩
  have hM1c : w8.heap.size ≤ M1 := by omega
  rw [hM1] at hm1 hm2
  try rw [hM1]
  clear hW9 hM1 hmm
  have HO8W := hid o8
  have h9 := h8.trans hx9
  have hx59 := hx58.trans hx9
  have o9 := own_below o8 hx9
  clear o8
  go_wp2
  go_loopw [89] (fun i wr => ∃ k : Nat, i = .int .i64 (k : Int) ∧ k ≤ F ∧ MapBl wr M1 k ((pr.take k).map (·.1)) ∧ MapBl wr (M1 + 1) k ((pr.take k).map (·.2)) ∧ BelS (fun j => j = M1 ∨ j = M1 + 1) W9 wr) (fun i _ => F - (intOf i).toNat)
  case atStart => exact ⟨0, rfl, Nat.zero_le _, hm1, hm2, BelS.refl _ _⟩
  case round =>
    obtain ⟨k, rfl, hk, hm1, hm2, hbl⟩ := hrel
    by_cases hlt : k < F
    · have hlt' : (k : Int) < (F : Int) := by omega
      have hx9r : Ext w8 wr := ((Ext.belS hx9).trans hbl).ext fun j hj hS => by omega
      have hr8 := h8.trans hx9r
      obtain ⟨p, hp⟩ := get_of_lt pr k (by rw [HPL.out]; exact hlt)
      obtain ⟨⟨g1, g2⟩, g3, g4, g5⟩ := prf_all HK.out HGD.out hp
      have g1 := wgOK_iff.1 g1
      have g2 := wgOK_iff.1 g2
      obtain ⟨b, off, rfl, e0, e1⟩ := prs_get (HPRS.out wr (hx58.trans hx9r)) hp
      obtain ⟨p1, p2⟩ := p
      obtain ⟨a, rfl⟩ : ∃ a : Nat, p1 = a := ⟨p1.toNat, by have := g1.1; simp at this; omega⟩
      obtain ⟨c, rfl⟩ : ∃ a : Nat, p2 = a := ⟨p2.toNat, by have := g2.1; simp at this; omega⟩
      have haN : a < N := by have := g1.2; rw [HN.out] at this; simp at this; omega
      have hcN : c < N := by have := g2.2; rw [HN.out] at this; simp at this; omega
      simp only [Int.toNat_natCast] at g3
      have G4 := hid g4
      have G5 := hid g5
      have HT1 : Hid ((pr.take k).map (·.1) ++ [(a : Int)] = (pr.take (k + 1)).map (·.1)) := by unfold Hid; rw [List.take_add_one, hp]; simp
      have HT2 : Hid ((pr.take k).map (·.2) ++ [(c : Int)] = (pr.take (k + 1)).map (·.2)) := by unfold Hid; rw [List.take_add_one, hp]; simp
      have hcl : claL h a c = true := by rw [claL_is HK.out (by rw [HN.out]; exact haN) (by rw [HN.out]; exact hcN)]; exact g3
      clear g1 g2 g3 g4 g5 hp
      go_upto_region 12 with fail
      obtain ⟨W1, hW1⟩ : ∃ W1, wr.alloc (.cells #[.int .i64 (a : Int), .int .i64 (c : Int)] 43) = W1 := ⟨_, rfl⟩
      have hx1 : Ext wr W1 := by rw [← hW1]; exact (Ext.refl _).alloc _
      have bp1 : W1.heap[wr.heap.size]? = some (.cells #[.int .i64 (a : Int), .int .i64 (c : Int)] 43 (0, 0)) := by rw [← hW1]; exact heap_alloc_new wr _
      try rw [hW1]
      obtain ⟨BP, hBP⟩ : ∃ b, wr.heap.size = b := ⟨_, rfl⟩
      rw [hBP] at bp1
      try rw [hBP]
      have hBPc : wr.heap.size ≤ BP := by omega
      clear hW1 hBP e0 e1
      have hma := hm1.ext hx1
      have hmb := hm2.ext hx1
      have hr1 := hr8.trans hx1
      have hM12 : M1 + 1 < wr.heap.size := hm2.lt
      have KC := KCL.out a c W1 haN hcN hr1
      rw [hcl] at KC
      have KC := hid KC
      obtain ⟨q0, q1, -⟩ := rat_cells bp1
      obtain ⟨c0, c1, c2'⟩ := FH.out W1 hr1
      have haN' : ¬ (a : Int) ≥ (N : Int) := by omega
      have hcN' : ¬ (c : Int) ≥ (N : Int) := by omega
      have ha0 : ¬ (a : Int) < 0 := by omega
      have hc0 : ¬ (c : Int) < 0 := by omega
      have ha6 : 0 ≤ (a : Int) ∧ (a : Int) ≤ 1000000 := by omega
      have hc6 : 0 ≤ (c : Int) ∧ (c : Int) ≤ 1000000 := by omega
      go_wp2_with (first | (at_lookup; refine wpList_lookup_blg rfl _ (by rfl) _ _ rfl M1 k _ rfl hma (a : Int) rfl ha6 ?_; rw [G4.out]) | (at_lookup; refine wpList_lookup_blg rfl _ (by rfl) _ _ rfl (M1 + 1) k _ rfl hmb (c : Int) rfl hc6 ?_; rw [G5.out]))
      refine KC.out.mono ?_
      rintro e W2 ⟨rfl, hx2'⟩
      clear KC q0 q1 c0 c1 c2' haN' hcN' ha0 hc0 G4 G5
      have hx12 := hx1.trans hx2'
      have hma := hm1.ext hx12
      have hmb := hm2.ext hx12
      have bp2 := (Below.block hx2' _ (Array.getElem?_eq_some_iff.1 bp1).1).trans bp1
      go_upto_region 14 with fail
      obtain ⟨w9, hw9e⟩ : ∃ w9, W2.drew = w9 := ⟨_, rfl⟩
      have hw9 : Ext W2 w9 := by rw [← hw9e]; exact Ext.drew (Ext.refl _)
      have hx19 := hx12.trans hw9
      have hma := hm1.ext hx19
      have hmb := hm2.ext hx19
      have FX : Hid (∀ w', BelS (fun j => j = M1 ∨ j = M1 + 1) w9 w' → w'.cell? ⟨BP, 0, none⟩ = some (.int .i64 (a : Int)) ∧ w'.cell? ⟨BP, 1, none⟩ = some (.int .i64 (c : Int))) := fun w' hb => by
        obtain ⟨q0, q1, -⟩ := rat_cells (hb.heap ((Below.block hw9 _ (Array.getElem?_eq_some_iff.1 bp2).1).trans bp2) (by omega))
        exact ⟨q0, q1⟩
      clear bp1 bp2
      have hS0 := FX.out w9 (BelS.refl _ _)
      go_region_held3 (fun w' => w'.cell? ⟨BP, 0, none⟩ = some (.int .i64 (a : Int)) ∧ w'.cell? ⟨BP, 1, none⟩ = some (.int .i64 (c : Int)))
        (first | exact hS0 | exact hSA | exact hSB | (rw [hw9e]; exact hS0) | fail)
        ((first
          | (refine upon_mark_bl rfl M1 k _ hma (by omega) (a : Int) ha6 ?_; intro wA hmA hbA0; have hbA : BelS (fun j => j = M1 ∨ j = M1 + 1) w9 wA := hbA0.mono (fun j _ e => Or.inl e); have hSA := FX.out wA hbA)
          | (refine upon_mark_bl rfl (M1 + 1) k _ (hmb.belS hbA0 (by omega)) (by omega) (c : Int) hc6 ?_; intro wB hmB hbB0; have hbB : BelS (fun j => j = M1 ∨ j = M1 + 1) wA wB := hbB0.mono (fun j _ e => Or.inr e); have hSB := FX.out wB (hbA.trans hbB))))
      have hmF1 := hmA.belS hbB0 (by omega)
      rw [HT1.out] at hmF1
      rw [HT2.out] at hmB
      have hblF := ((hbl.trans (Ext.belS hx19)).trans hbA).trans hbB
      clear hma hmb hmA
      go_wp2
      go_roundw
      case rel => exact ⟨k + 1, by go_num, by omega, hmF1, hmB, hblF⟩
      case measure => simp [intOf]; omega
    · have hlt' : ¬ (k : Int) < (F : Int) := by omega
      have hx9r : Ext w8 wr := ((Ext.belS hx9).trans hbl).ext fun j hj hS => by omega
      have hr8 := h8.trans hx9r
      have hx5r := hx58.trans hx9r
      have or_ := hbl.own o9 (fun g hg hS => by have := (HO8W.out.lt g hg).2; rcases hS with e | e <;> omega)
      clear hm1 hm2 hbl o9 hx9
      have KPV := proves_any _ h wr (HR.out wr hr8) hs A10 k10 pr (HPRS.out wr hx5r) (by rw [HPL.out]; omega)
      rw [HGD.out.ok.1, HGD.out.ok.2, HPL.out] at KPV
      unfold hval at KPV
      rw [HN.out] at KPV
      have KPV := hid KPV
      have hFb : ((F : Int) != (F : Int)) = false := by simp
      obtain ⟨c0, c1, c2'⟩ := FH.out wr hr8
      go_wp2_with fail
      refine KPV.out.mono ?_
      rintro e w10 ⟨rfl, hx10⟩
      clear KPV c0 c1 c2'
      have h10 := hr8.trans hx10
      have o10 := own_below or_ hx10
      clear or_
      obtain ⟨tv, htv⟩ : ∃ x, wthV h FW = x := ⟨_, rfl⟩
      obtain ⟨LL, hLL⟩ : ∃ x : Nat, tv.ws.length = x := ⟨_, rfl⟩
      have HLL := hid hLL
      have NSE := NK.out.sE
      have NSF := NK.out.sF
      have NWV := NK.out.wV
      have NWL := NK.out.wL
      have NCV := NK.out.cov
      rw [HFW.out] at NSE NSF NWV NWL NCV
      rw [HF.out, HN.out] at NWL
      rw [htv] at NSE NSF NWV
      have hLLN : LL + F = N := by rw [← hLL, NWV]; exact NWL
      have hszt : tv.sized := by unfold Hs.sized; rw [hLL]; omega
      have KW := without_any _ h w10 (HR.out w10 h10) hs A8 k8 FW (Rd.of_own o10) (by rw [HF.out]; omega)
      have NWE := NK.out.wE
      rw [HFW.out] at NWE
      rw [htv, NWE, HF.out, hLL] at KW
      unfold hval at KW
      rw [hLL, HN.out] at KW
      have KW := hid KW
      clear NWV NWL NWE
      obtain ⟨c0, c1, c2'⟩ := FH.out w10 h10
      go_wp2_with fail
      refine KW.out.mono ?_
      rintro e w11 ⟨A13, c13, rfl, hx11, ho13⟩
      clear KW c0 c1 c2'
      have h11 := h10.trans hx11
      go_upto_region 20 with fail
      obtain ⟨Q, hQ⟩ : ∃ Pw, w11.alloc (.cells #[.int .i64 tv.mo, .int .i64 tv.pk, .slice A13 LL c13] 25) = Pw := ⟨_, rfl⟩
      have xQ : Ext w11 Q := by rw [← hQ]; exact (Ext.refl _).alloc _
      have bQ : Q.heap[w11.heap.size]? = some (.cells #[.int .i64 tv.mo, .int .i64 tv.pk, .slice A13 LL c13] 25 (0, 0)) := by rw [← hQ]; exact heap_alloc_new w11 _
      try rw [hQ]
      obtain ⟨BT, hBT⟩ : ∃ b, w11.heap.size = b := ⟨_, rfl⟩
      rw [hBT] at bQ
      try rw [hBT]
      clear hQ hBT
      have hQ := h11.trans xQ
      have oQ := own_below o10 (hx11.trans xQ)
      have HOQ := hid oQ
      have HTR : Hid (∀ w', Ext Q w' → HsR w' (.agg #[.int .i64 tv.mo, .int .i64 tv.pk, .slice A13 LL c13]) tv) := fun w' hx => ⟨A13, c13, by unfold hval; rw [HLL.out], Rd.of_own (own_below ho13 (xQ.trans hx)), by rw [HLL.out]; exact own_cap2 ho13⟩
      have FQ : Hid (∀ w', Ext Q w' → (w'.cell? ⟨w2.heap.size, 0, none⟩ = some (.int .i64 h.mo) ∧ w'.cell? ⟨w2.heap.size, 1, none⟩ = some (.int .i64 h.pk) ∧ w'.cell? ⟨w2.heap.size, 2, none⟩ = some (.slice Ah N ch)) ∧ w'.cell? ⟨BT, 0, none⟩ = some (.int .i64 tv.mo) ∧ w'.cell? ⟨BT, 1, none⟩ = some (.int .i64 tv.pk) ∧ w'.cell? ⟨BT, 2, none⟩ = some (.slice A13 LL c13)) := fun w' hx => by
        obtain ⟨d0, d1, d2, -⟩ := house_cells (v0 := .int .i64 tv.mo) ((Below.block hx _ (Array.getElem?_eq_some_iff.1 bQ).1).trans bQ)
        exact ⟨FH.out w' (hQ.trans hx), d0, d1, d2⟩
      have HI8 : Hid (∀ w', Ext Q w' → Ints w' A8 FW) := fun w' hx => Rd.of_own (own_below HOQ.out hx)
      have KRE : Hid (∀ w', Ext P2 w' → ∀ Al cl (L : List Int), Ints w' Al L → L.length ≤ 1000 → _) := fun w' hw Al cl L hL hl => rest_any _ h w' (HR.out w' hw) (by rw [HN.out]; omega) Al cl L hL hl
      have KAG : Hid (∀ w', Ext P2 w' → ∀ Al cl (L M : List Int), M = rstL h L → Ints w' Al M → Calls Tryz.prog 14 #[.agg #[.int .i64 h.mo, .int .i64 h.pk, .slice Ah N ch], .slice Al M.length cl] w' fun e w2 => e = .returned (.bool (covH h L)) ∧ Ext w' w2) := fun w' hw Al cl L M e hM => by
        subst e
        have hb : ∀ x ∈ rstL h L, 0 ≤ x ∧ x < (h.ws.length : Int) := fun x hx => (mem_restK.1 hx).1
        have q := lagree_any _ h HK.out w' (HR.out w' hw) Al cl (rstL h L) hM (by have := restK_len L h.ws.length; rw [HN.out] at this; unfold rstL; rw [HN.out]; omega) hb
        rw [agr_rest HK.out] at q
        unfold hval at q
        rw [HN.out] at q
        exact q
      unfold hval at KRE
      rw [HN.out] at KRE
      have hsub : IntKind.i64.wrap ((N : Int) - (F : Int)) = (LL : Int) := by rw [show (N : Int) - (F : Int) = (LL : Int) by omega]; exact IntWalk.i64_in _ ⟨by omega, by omega⟩
      have hLb : ((LL : Int) != (LL : Int)) = false := by simp
      have HSLX : Hid (((shoV tv).length : Int) = h.mo) := by have q := NK.out.sL; rw [HFW.out, htv] at q; exact q
      have HLEX : Hid (∀ l, Asc 0 N l → covH h l = true → ¬ l.length < FW.length ∧ (l.length ≤ FW.length → ¬ cmpL l FW < 0)) := by have q := NK.out.least; rw [HFW.out, HN.out] at q; exact q
      have HFAX : FW.Nodup ∧ (∀ x ∈ FW, 0 ≤ x ∧ x < (N : Int)) ∧ FW.length ≤ F := by
        have q := NK.out.asc
        rw [HFW.out, HN.out] at q
        exact ⟨q.lt.imp fun {a b} e => by omega, fun x hx => by have := q.mem x hx; omega, by rw [HF.out]; exact Nat.le_refl _⟩
      have HFAX := hid HFAX
      have HQX : Hid (Ext w10 Q) := hx11.trans xQ
      have HX3 : Hid (Ext w3 wr) := hx35.trans hx5r
      clear o10 oQ ho13 bQ xQ hx11 htv hLL NK
      refine wp_region_shut Ext (fun w' => Ext Q w') (fun
        | 18 => some (fun v w' => ∃ A k, v = .slice A (rstL h FW).length k ∧ Ints w' A (rstL h FW))
        | 19 => some (fun v _ => v = .bool true)
        | _ => none) (by kernel_rfl) (by kernel_rfl) (fun _ _ h k => h.trans k) ?hTr (Ext.drew (Ext.refl Q)) ?_
      case hTr =>
        intro i R hR
        match i, hR with
        | 18, hR => cases hR; exact fun v _ _ h hx => by obtain ⟨A, k, e, ho⟩ := h; exact ⟨A, k, e, Rd.ext ho hx⟩
        | 19, hR => cases hR; exact fun _ _ _ h _ => h
      refine wM_val ?ur0 rfl rfl Ext.refl (fun w' hD => ?hr0) (fun phr0 => ?nr0)
      case hr0 =>
        obtain ⟨⟨c0, c1, c2'⟩, d0, d1, d2⟩ := FQ.out w' hD.1
        go_simp; rfl
      simp only [Act.put, List.setIfInBounds_toArray, List.set_cons_succ, List.set_cons_zero, Nat.reduceAdd]
      refine wM_val ?ur1 rfl rfl Ext.refl (fun w' hD => ?hr1) (fun phr1 => ?nr1)
      case hr1 =>
        obtain ⟨⟨c0, c1, c2'⟩, d0, d1, d2⟩ := FQ.out w' hD.1
        go_simp; rfl
      simp only [Act.put, List.setIfInBounds_toArray, List.set_cons_succ, List.set_cons_zero, Nat.reduceAdd]
      refine wM_val ?ur2 rfl rfl Ext.refl (fun w' hD => ?hr2) (fun phr2 => ?nr2)
      case hr2 =>
        obtain ⟨⟨c0, c1, c2'⟩, d0, d1, d2⟩ := FQ.out w' hD.1
        go_simp; rfl
      simp only [Act.put, List.setIfInBounds_toArray, List.set_cons_succ, List.set_cons_zero, Nat.reduceAdd]
      refine wM_val ?ur3 rfl rfl Ext.refl (fun w' hD => ?hr3) (fun phr3 => ?nr3)
      case hr3 =>
        obtain ⟨⟨c0, c1, c2'⟩, d0, d1, d2⟩ := FQ.out w' hD.1
        go_simp; rfl
      simp only [Act.put, List.setIfInBounds_toArray, List.set_cons_succ, List.set_cons_zero, Nat.reduceAdd]
      refine wM_val ?ur4 rfl rfl Ext.refl (fun w' hD => ?hr4) (fun phr4 => ?nr4)
      case hr4 =>
        obtain ⟨⟨c0, c1, c2'⟩, d0, d1, d2⟩ := FQ.out w' hD.1
        go_simp; rfl
      simp only [Act.put, List.setIfInBounds_toArray, List.set_cons_succ, List.set_cons_zero, Nat.reduceAdd]
      refine wM_val ?ur5 rfl rfl Ext.refl (fun w' hD => ?hr5) (fun phr5 => ?nr5)
      case hr5 =>
        obtain ⟨⟨c0, c1, c2'⟩, d0, d1, d2⟩ := FQ.out w' hD.1
        go_simp; rfl
      simp only [Act.put, List.setIfInBounds_toArray, List.set_cons_succ, List.set_cons_zero, Nat.reduceAdd]
      refine wM_val ?ur6 rfl rfl Ext.refl (fun w' hD => ?hr6) (fun phr6 => ?nr6)
      case hr6 =>
        obtain ⟨⟨c0, c1, c2'⟩, d0, d1, d2⟩ := FQ.out w' hD.1
        go_simp; rfl
      simp only [Act.put, List.setIfInBounds_toArray, List.set_cons_succ, List.set_cons_zero, Nat.reduceAdd]
      refine wM_val ?ur7 rfl rfl Ext.refl (fun w' hD => ?hr7) (fun phr7 => ?nr7)
      case hr7 =>
        obtain ⟨⟨c0, c1, c2'⟩, d0, d1, d2⟩ := FQ.out w' hD.1
        go_simp; rfl
      simp only [Act.put, List.setIfInBounds_toArray, List.set_cons_succ, List.set_cons_zero, Nat.reduceAdd]
      refine wM_val ?ur8 rfl rfl Ext.refl (fun w' hD => ?hr8) (fun phr8 => ?nr8)
      case hr8 =>
        obtain ⟨⟨c0, c1, c2'⟩, d0, d1, d2⟩ := FQ.out w' hD.1
        go_simp; rfl
      simp only [Act.put, List.setIfInBounds_toArray, List.set_cons_succ, List.set_cons_zero, Nat.reduceAdd]
      refine wM_val ?ur9 rfl rfl Ext.refl (fun w' hD => ?hr9) (fun phr9 => ?nr9)
      case hr9 =>
        obtain ⟨⟨c0, c1, c2'⟩, d0, d1, d2⟩ := FQ.out w' hD.1
        go_simp; rfl
      simp only [Act.put, List.setIfInBounds_toArray, List.set_cons_succ, List.set_cons_zero, Nat.reduceAdd]
      refine wM_val ?ur10 rfl rfl Ext.refl (fun w' hD => ?hr10) (fun phr10 => ?nr10)
      case hr10 =>
        obtain ⟨⟨c0, c1, c2'⟩, d0, d1, d2⟩ := FQ.out w' hD.1
        go_simp; rfl
      simp only [Act.put, List.setIfInBounds_toArray, List.set_cons_succ, List.set_cons_zero, Nat.reduceAdd]
      refine wM_val ?ur11 rfl rfl Ext.refl (fun w' hD => ?hr11) (fun phr11 => ?nr11)
      case hr11 =>
        obtain ⟨⟨c0, c1, c2'⟩, d0, d1, d2⟩ := FQ.out w' hD.1
        go_simp; rfl
      simp only [Act.put, List.setIfInBounds_toArray, List.set_cons_succ, List.set_cons_zero, Nat.reduceAdd]
      refine wM_val ?ur12 rfl rfl Ext.refl (fun w' hD => ?hr12) (fun phr12 => ?nr12)
      case hr12 =>
        obtain ⟨⟨c0, c1, c2'⟩, d0, d1, d2⟩ := FQ.out w' hD.1
        go_simp; rfl
      simp only [Act.put, List.setIfInBounds_toArray, List.set_cons_succ, List.set_cons_zero, Nat.reduceAdd]
      refine wM_val ?ur13 rfl rfl Ext.refl (fun w' hD => ?hr13) (fun phr13 => ?nr13)
      case hr13 =>
        obtain ⟨⟨c0, c1, c2'⟩, d0, d1, d2⟩ := FQ.out w' hD.1
        go_simp; rfl
      simp only [Act.put, List.setIfInBounds_toArray, List.set_cons_succ, List.set_cons_zero, Nat.reduceAdd]
      refine wM_val ?ur14 rfl rfl Ext.refl (fun w' hD => ?hr14) (fun phr14 => ?nr14)
      case hr14 =>
        obtain ⟨⟨c0, c1, c2'⟩, d0, d1, d2⟩ := FQ.out w' hD.1
        go_simp; rfl
      simp only [Act.put, List.setIfInBounds_toArray, List.set_cons_succ, List.set_cons_zero, Nat.reduceAdd]
      refine wM_val ?ur15 rfl rfl Ext.refl (fun w' hD => ?hr15) (fun phr15 => ?nr15)
      case hr15 =>
        obtain ⟨⟨c0, c1, c2'⟩, d0, d1, d2⟩ := FQ.out w' hD.1
        go_simp; rfl
      simp only [Act.put, List.setIfInBounds_toArray, List.set_cons_succ, List.set_cons_zero, Nat.reduceAdd]
      refine wM_val ?ur16 rfl rfl Ext.refl (fun w' hD => ?hr16) (fun phr16 => ?nr16)
      case hr16 =>
        obtain ⟨⟨c0, c1, c2'⟩, d0, d1, d2⟩ := FQ.out w' hD.1
        go_simp; rfl
      simp only [Act.put, List.setIfInBounds_toArray, List.set_cons_succ, List.set_cons_zero, Nat.reduceAdd]
      refine wM_val ?ur17 rfl rfl Ext.refl (fun w' hD => ?hr17) (fun phr17 => ?nr17)
      case hr17 =>
        obtain ⟨⟨c0, c1, c2'⟩, d0, d1, d2⟩ := FQ.out w' hD.1
        go_simp; rfl
      simp only [Act.put, List.setIfInBounds_toArray, List.set_cons_succ, List.set_cons_zero, Nat.reduceAdd]
      refine wM_op _ rfl rfl (opens_call ?fr18 ?gr18 (fun w' hD => ?hr18) (fun w' hD => ?cr18)) (fun v18 hv18 => ?nr18)
      case hr18 => go_simp; constructor <;> rfl
      case cr18 =>
        have K := KRE.out w' (hQ.trans hD.1) _ k8 FW (HI8.out w' hD.1) (by rw [HF.out]; omega)
        rw [HF.out] at K
        refine K.mono ?_
        rintro e w2 ⟨A2, k2, rfl, ho, hb⟩
        exact ⟨_, rfl, hb, A2, k2, rfl, Rd.of_own ho⟩
      obtain ⟨_, -, -, Ar, kr, rfl, -⟩ := hv18
      simp only [Act.put, List.setIfInBounds_toArray, List.set_cons_succ, List.set_cons_zero, Nat.reduceAdd]
      refine wM_op _ rfl rfl (opens_call ?fr19 ?gr19 (fun w' hD => ?hr19) (fun w' hD => ?cr19)) (fun v19 hv19 => ?nr19)
      case hr19 => go_simp; constructor <;> rfl
      case cr19 =>
        obtain ⟨-, A3, k3, e3, hr3⟩ := hD.get 18 (by first | kernel_rfl | simp [Region.binds])
        cases e3
        have K := KAG.out w' (hQ.trans hD.1) Ar kr FW _ rfl hr3
        rw [NCV] at K
        refine K.mono ?_
        rintro e w2 ⟨rfl, hb⟩
        exact ⟨_, rfl, hb, rfl⟩
      obtain ⟨_, -, -, rfl⟩ := hv19
      simp only [Act.put, List.setIfInBounds_toArray, List.set_cons_succ, List.set_cons_zero, Nat.reduceAdd]
      refine wM_val ?ur20 rfl rfl Ext.refl (fun w' hD => ?hr20) (fun phr20 => ?nr20)
      case hr20 =>
        obtain ⟨⟨c0, c1, c2'⟩, d0, d1, d2⟩ := FQ.out w' hD.1
        go_simp; rfl
      simp only [Act.put, List.setIfInBounds_toArray, List.set_cons_succ, List.set_cons_zero, Nat.reduceAdd]
      refine wM_val ?ur21 rfl rfl Ext.refl (fun w' hD => ?hr21) (fun phr21 => ?nr21)
      case hr21 =>
        obtain ⟨⟨c0, c1, c2'⟩, d0, d1, d2⟩ := FQ.out w' hD.1
        go_simp; rfl
      simp only [Act.put, List.setIfInBounds_toArray, List.set_cons_succ, List.set_cons_zero, Nat.reduceAdd]
      refine wM_nil ?_
      intro w9 hw9 hF9
      clear hsub hLb
      have hQ9 := hQ.trans hw9
      clear hF9
      clear NCV
      have KSH := shownx_any _ tv w9 (HTR.out w9 hw9) hszt
      obtain ⟨SV, hSV⟩ : ∃ x, shoV tv = x := ⟨_, rfl⟩
      obtain ⟨SL, hSL⟩ : ∃ x : Nat, SV.length = x := ⟨_, rfl⟩
      have hSL12 : SL ≤ 1000 := by
        have q := HSLX.out
        rw [hSV, hSL] at q
        have := HMD.out.mo
        omega
      rw [NSE, hSV, hSL] at KSH
      have KSH := hid KSH
      obtain ⟨⟨c0, c1, c2'⟩, d0, d1, d2⟩ := FQ.out w9 hw9
      go_wp2_with fail
      refine KSH.out.mono ?_
      rintro e w12 ⟨A21, k21, rfl, hx12, ho21⟩
      clear KSH c0 c1 c2' d0 d1 d2
      have hw12 := hw9.trans hx12
      have i21 : Prs w12 A21 SV := Rd.of_own ho21
      have KFL := false_any _ tv w12 (HTR.out w12 hw12) hszt A21 k21 SV i21 (by rw [hSL]; omega)
      rw [hSV] at NSF
      rw [NSF.1, NSF.2, hSL] at KFL
      have KFL := hid KFL
      clear NSE NSF hSV hSL ho21 i21
      obtain ⟨⟨c0, c1, c2'⟩, d0, d1, d2⟩ := FQ.out w12 hw12
      go_wp2_with fail
      refine KFL.out.mono ?_
      rintro e w13 ⟨A22, k22, rfl, hx13, -⟩
      clear KFL c0 c1 c2' d0 d1 d2
      have hw13 := hw12.trans hx13
      have hQ13 := hQ.trans hw13
      have oL := own_below HOQ.out hw13
      have hhL : HeapR w13 D2 := hh3.ext (HX3.out.trans ((hx10.trans HQX.out).trans hw13))
      have hD2b : D2 < w3.heap.size := hh3.lt
      clear hw9 hx12 hx13 hw12
      go_wp2
      go_loopw [207] (fun i wr => ∃ t : Nat, i = .int .i64 (t : Int) ∧ t ≤ 8 ∧ Bel D2 w13 wr ∧ HeapR wr D2) (fun i _ => 8 - (intOf i).toNat)
      case atStart => exact ⟨0, rfl, by decide, Bel.refl _ _, hhL⟩
      case round =>
        obtain ⟨t, rfl, ht8, hbl, hh⟩ := hrel
        have hPr : Ext P2 wr := Ext.then_bel hQ13 hD2 hbl
        have hfg : ∀ g, (Value.slice A8 F k8).ownBlock = some g → g ≠ D2 := fun g hg => by have := (oL.lt g hg).1; omega
        have or_ := hbl.own oL hfg
        by_cases hlt : t < 8
        · have hlt' : (t : Int) < 8 := by omega
          obtain ⟨wo, rfl⟩ : ∃ wo : World, wo = wr := ⟨_, rfl⟩
          have KD := dup_int A8 k8 FW wo (Rd.of_own or_) (by rw [HF.out]; omega)
          rw [HF.out] at KD
          have KD := hid KD
          go_wp2_with fail
          refine KD.out.mono ?_
          rintro e w14 ⟨g24, k24, rfl, ho24, hx14⟩
          clear KD
          have hh14 := hh.ext hx14
          go_wp2_with fail
          refine (from_any D2 1 3 w14 hh14 (by decide) (by decide) (by decide) (by decide)).mono ?_
          rintro e w15 ⟨cnt, rfl, hc1, hc3, hb15, hh15⟩
          obtain ⟨cnt, rfl⟩ : ∃ n : Nat, cnt = n := ⟨cnt.toNat, by omega⟩
          have hDo : D2 < wo.heap.size := hh.lt
          have ho15 := hb15.own ho24 (fun g hg => by have := (ho24.lt g hg).1; omega)
          have hb15 := (Ext.bel (D := D2) hx14).trans hb15
          have HFA : Hid (FW.Nodup ∧ (∀ x ∈ FW, 0 ≤ x ∧ x < (N : Int)) ∧ FW.length ≤ F) := HFAX.out
          clear ho24 hh14 hx14
          go_wp2
          go_loopw [24, 213] (fun s24 i wr => ∃ (j : Nat) (L : List Int) (m g c : Nat), i = .int .i64 (j : Int) ∧ j ≤ cnt ∧ s24 = .slice (some ⟨g, 0, none⟩) m c ∧ Hid (L.length = m) ∧ wr.ownsRow wo.heap.size 3 1 (.slice (some ⟨g, 0, none⟩) m c) m (L.map (.int .i64)) ∧ Hid (L.Nodup ∧ (∀ x ∈ L, 0 ≤ x ∧ x < (N : Int)) ∧ L.length ≤ F) ∧ Bel D2 wo wr ∧ HeapR wr D2) (fun _ i _ => cnt - (intOf i).toNat)
          case atStart => exact ⟨0, FW, F, g24, k24, rfl, Nat.zero_le _, rfl, HF, ho15, HFA, hb15, hh15⟩
          case round =>
            obtain ⟨j, L, m, g, c, rfl, hj, rfl, HLm, ho, HLA, hbi, hhi⟩ := hrel
            have hmF : m ≤ F := by rw [← HLm.out]; exact HLA.out.2.2
            have hgw : wo.heap.size ≤ g := (ho.lt g rfl).1
            by_cases hlj : j < cnt
            · have hlj' : (j : Int) < (cnt : Int) := by omega
              have hPi : Ext P2 wr := Ext.then_bel hPr hD2 hbi
              obtain ⟨X, hX⟩ : ∃ X : Int, max 0 ((N : Int) - 1) = X := ⟨_, rfl⟩
              have hX2 : (if (0 : Int) < (N : Int) - 1 then (N : Int) - 1 else 0) = X := by rw [← hX]; split <;> omega
              have hX3 : 0 ≤ X ∧ X ≤ 14 ∧ (0 < N → X = (N : Int) - 1) := by omega
              have hwN : IntKind.i64.wrap ((N : Int) - 1) = (N : Int) - 1 := IntWalk.i64_in _ ⟨by omega, by omega⟩
              obtain ⟨c0, c1, c2'⟩ := FH.out wr hPi
              go_wp2_with fail
              refine (upto_any D2 X wr hhi (by omega) (by omega)).mono ?_
              rintro e w16 ⟨x, rfl, x0, x1, hb16, hh16⟩
              clear hX hX2 hwN c0 c1 c2'
              have ho := hb16.own ho (fun g' hg => by have e2 : some g = some g' := hg; injection e2 with e3; omega)
              have hbi := hbi.trans hb16
              have hPi : Ext P2 w16 := Ext.then_bel hPr hD2 hbi
              clear hb16 hhi
              obtain ⟨c0, c1, c2'⟩ := FH.out w16 hPi
              by_cases hN0 : 0 < N
              · have hN0' : (N : Int) > 0 := by omega
                have hxN : x < (N : Int) := by omega
                go_upto_region 35 with fail
                clear c0 c1 c2' hN0'
                have KI := indexI_any x (some ⟨g, 0, none⟩) c L w16 (Rd.of_own ho) (by rw [HLm.out]; omega)
                rw [HLm.out] at KI
                rcases idxF_rng (fun y => x == y) L 0 with hidx | ⟨i, hi, hidx⟩
                · have hnot : x ∉ L := fun hm => by
                    have q := idxF_nonneg (fun y => x == y) L 0
                    rw [hidx, List.any_eq_true.2 ⟨x, hm, by simp⟩] at q
                    simp at q
                  rw [hidx] at KI
                  have KI := hid KI
                  clear hidx
                  go_wp2_with fail
                  refine KI.out.mono ?_
                  rintro e w17 ⟨rfl, e17⟩
                  subst e17
                  clear KI
                  by_cases hmlt : m < F
                  · have hmlt' : (m : Int) < (F : Int) := by omega
                    have hsz := hbi.size
                    have HLN : Hid ((L ++ [x]).Nodup ∧ (∀ y ∈ L ++ [x], 0 ≤ y ∧ y < (N : Int)) ∧ (L ++ [x]).length ≤ F) := by
                      refine ⟨?_, fun y hy => ?_, by rw [List.length_append, HLm.out]; simp; omega⟩
                      · rw [List.nodup_append]
                        exact ⟨HLA.out.1, by simp, fun a ha b hb e => by simp at hb; subst hb; subst e; exact hnot ha⟩
                      · rcases List.mem_append.1 hy with q | q
                        · exact HLA.out.2.1 y q
                        · simp at q; subst q; exact ⟨x0, hxN⟩
                    clear hnot
                    go_wp2_with (at_builtin; refine wpList_append_rd2 _ rfl _ _ 31 rfl elem_int wo.heap.size _ m (L.map (.int .i64)) rfl (own_below ho (Ext.alloc (Ext.refl _) _)) (some ⟨w17.heap.size, 0, none⟩) 1 1 [.int .i64 x] rfl rfl (rd_blk2 (heap_alloc_new w17 _)) (by intro u hu; simp at hu; subst hu; rfl) (by omega) (by simp; omega) ?_)
                    intro A5 c5 w5 own5 bel5 gr5 at5
                    obtain ⟨W8, hW8⟩ : ∃ W8, w17.alloc (.cells #[.int .i64 x] 3) = W8 := ⟨_, rfl⟩
                    have hx8' : Ext w17 W8 := by rw [← hW8]; exact Ext.alloc (Ext.refl _) _
                    have gr5' : W8.grownBy w5 (Value.slice (some ⟨g, 0, none⟩) m c).ownBlock := by rw [← hW8]; exact gr5
                    have hS5 : BelS (fun k => k = g) W8 w5 := (BelS.refl _ W8).grown gr5' (fun k e => by cases e; rfl)
                    have hbN : Bel D2 wo w5 := (hbi.trans (Ext.bel hx8')).then_ hS5 (fun i hi hs => by omega)
                    have hhN : HeapR w5 D2 := (hh16.ext hx8').belS hS5 (fun k hk hs => by omega)
                    obtain ⟨g5, rfl⟩ : ∃ g5, A5 = some ⟨g5, 0, none⟩ := by
                      rcases own5.2 with ⟨h1, h2⟩ | ⟨g2, cap, cur, e1, -⟩
                      · omega
                      · cases e1; exact ⟨g2, rfl⟩
                    rw [show L.map (Value.int .i64) ++ [.int .i64 x] = (L ++ [x]).map (.int .i64) from by simp] at own5
                    have HO5 := hid own5
                    clear own5 bel5 gr5 gr5' at5 hW8 hS5 hx8' ho hbi hh16
                    go_wp2
                    go_roundw
                    case rel => exact ⟨j + 1, L ++ [x], m + 1, g5, c5, by go_num, by omega, rfl, by unfold Hid; rw [List.length_append, HLm.out]; rfl, HO5.out, HLN, hbN, hhN⟩
                    case measure => simp [intOf]; omega
                  · have hmlt' : ¬ (m : Int) < (F : Int) := by omega
                    go_wp2
                    go_roundw
                    case rel => exact ⟨j + 1, L, m, g, c, by go_num, by omega, rfl, HLm, ho, HLA, hbi, hh16⟩
                    case measure => simp [intOf]; omega
                · rw [Nat.zero_add] at hidx
                  rw [hidx] at KI
                  have KI := hid KI
                  have him : i < m := by rw [← HLm.out]; exact hi
                  clear hidx
                  have hi0 : (i : Int) ≥ 0 := by omega
                  have hwi : IntKind.i64.wrap ((i : Int) + 1) = (i : Int) + 1 := IntWalk.i64_in _ ⟨by omega, by omega⟩
                  go_wp2_with fail
                  refine KI.out.mono ?_
                  rintro e w17 ⟨rfl, e17⟩
                  subst e17
                  clear KI
                  have KD := delete2_any wo.heap.size g c i L w17 (by rw [HLm.out]; exact ho) hi
                  have HEL : Hid ((L.eraseIdx i).length = m - 1) := by unfold Hid; rw [List.length_eraseIdx, if_pos hi, HLm.out]
                  rw [HLm.out, HEL.out] at KD
                  have KD := hid KD
                  have HLN : Hid ((L.eraseIdx i).Nodup ∧ (∀ y ∈ L.eraseIdx i, 0 ≤ y ∧ y < (N : Int)) ∧ (L.eraseIdx i).length ≤ F) := ⟨nodup_erase HLA.out.1 i, fun y hy => HLA.out.2.1 y (mem_erase hy), by rw [HEL.out]; omega⟩
                  go_wp2_with fail
                  refine KD.out.mono ?_
                  rintro e w18 ⟨rfl, ho18, hS18⟩
                  clear KD
                  have hbN : Bel D2 wo w18 := hbi.then_ hS18 (fun i hi hs => by omega)
                  have hhN : HeapR w18 D2 := hh16.belS hS18 (fun k hk hs => by omega)
                  clear hS18 ho hbi hh16 hwi hi0
                  go_wp2
                  go_roundw
                  case rel => exact ⟨j + 1, L.eraseIdx i, m - 1, g, c, by go_num, by omega, rfl, HEL, ho18, HLN, hbN, hhN⟩
                  case measure => simp [intOf]; omega
              · have hN0' : ¬ (N : Int) > 0 := by omega
                go_wp2
                go_roundw
                case rel => exact ⟨j + 1, L, m, g, c, by go_num, by omega, rfl, HLm, ho, HLA, hbi, hh16⟩
                case measure => simp [intOf]; omega
            · have hlj' : ¬ (j : Int) < (cnt : Int) := by omega
              have hPi : Ext P2 wr := Ext.then_bel hPr hD2 hbi
              have KS := sortI2_any wo.heap.size g c L wr (by rw [HLm.out]; exact ho) (by rw [HLm.out]; omega)
              obtain ⟨Z, hZ⟩ : ∃ Z, sortI L = Z := ⟨_, rfl⟩
              have HZm : Hid (Z.length = m) := by unfold Hid; rw [← hZ, sortI_len, HLm.out]
              have HZA := sorted_asc HLA.out.1 HLA.out.2.1
              rw [hZ] at KS HZA
              rw [HLm.out] at KS
              have KS := hid KS
              have HZA := hid HZA
              clear hZ
              go_wp2_with fail
              refine KS.out.mono ?_
              rintro e w16 ⟨rfl, ho16, hS16⟩
              clear KS
              have hbN : Bel D2 wo w16 := hbi.then_ hS16 (fun i hi hs => by omega)
              have hhN : HeapR w16 D2 := hhi.belS hS16 (fun k hk hs => by omega)
              have hPi : Ext P2 w16 := Ext.then_bel hPr hD2 hbN
              have orN := hbN.own or_ hfg
              clear hS16 ho hbi hhi
              have HI24 : Hid (∀ w', Ext w16 w' → Ints w' (some ⟨g, 0, none⟩) Z) := fun w' hx => Rd.of_own (own_below ho16 hx)
              have HI8' : Hid (∀ w', Ext w16 w' → Ints w' A8 FW) := fun w' hx => Rd.of_own (own_below orN hx)
              have FR : Hid (∀ w', Ext w16 w' → w'.cell? ⟨w2.heap.size, 0, none⟩ = some (.int .i64 h.mo) ∧ w'.cell? ⟨w2.heap.size, 1, none⟩ = some (.int .i64 h.pk) ∧ w'.cell? ⟨w2.heap.size, 2, none⟩ = some (.slice Ah N ch)) := fun w' hx => FH.out w' (hPi.trans hx)
              obtain ⟨C, hC⟩ : ∃ C, covH h Z = C := ⟨_, rfl⟩
              have HLE : Hid (C = true → ¬ m < F ∧ ¬ cmpL Z FW < 0) := fun e => by
                have q := HLEX.out Z (asc_of HZA.out.1 HZA.out.2) (hC.trans e)
                rw [HZm.out, HF.out] at q
                exact ⟨q.1, by first | exact q.2 (by omega) | exact Int.not_lt.2 (q.2 (by omega))⟩
              go_upto_region 42 with fail
              obtain hCc | hCc : C = true ∨ C = false := by cases C <;> simp
              · subst hCc
                obtain ⟨hm1, hm2⟩ := HLE.out rfl
                have hm1' : ¬ (m : Int) < (F : Int) := by omega
                obtain ⟨CM, hCM⟩ : ∃ x, cmpL Z FW = x := ⟨_, rfl⟩
                rw [hCM] at hm2
                have KCM : Hid (∀ w', Ext w16 w' → _) := fun w' hx => compare_any (some ⟨g, 0, none⟩) c Z A8 k8 FW w' (HI24.out w' hx) (HI8'.out w' hx) (by rw [HZm.out]; omega) (by rw [HF.out]; omega)
                rw [hCM, HZm.out, HF.out] at KCM
                clear HLE hCM
                refine wp_region_shut Ext (fun w' => Ext w16 w') (fun
                  | 3 => some (fun v w' => ∃ A k, v = .slice A (rstL h Z).length k ∧ Ints w' A (rstL h Z))
                  | 4 => some (fun v _ => v = .bool true)
                  | 14 => some (fun v _ => v = .int .i64 CM)
                  | _ => none) (by kernel_rfl) (by kernel_rfl) (fun _ _ h k => h.trans k) ?hTa (Ext.drew (Ext.refl w16)) ?_
                case hTa =>
                  intro i R hR
                  match i, hR with
                  | 3, hR => cases hR; exact fun v _ _ h hx => by obtain ⟨A, k, e, ho⟩ := h; exact ⟨A, k, e, Rd.ext ho hx⟩
                  | 4, hR => cases hR; exact fun _ _ _ h _ => h
                  | 14, hR => cases hR; exact fun _ _ _ h _ => h
                refine wM_val ?ua0 rfl rfl Ext.refl (fun w' hD => ?ha0) (fun pha0 => ?na0)
                case ha0 =>
                  obtain ⟨c0, c1, c2'⟩ := FR.out w' hD.1
                  go_simp; rfl
                simp only [Act.put, List.setIfInBounds_toArray, List.set_cons_succ, List.set_cons_zero, Nat.reduceAdd]
                refine wM_val ?ua1 rfl rfl Ext.refl (fun w' hD => ?ha1) (fun pha1 => ?na1)
                case ha1 =>
                  obtain ⟨c0, c1, c2'⟩ := FR.out w' hD.1
                  go_simp; rfl
                simp only [Act.put, List.setIfInBounds_toArray, List.set_cons_succ, List.set_cons_zero, Nat.reduceAdd]
                refine wM_val ?ua2 rfl rfl Ext.refl (fun w' hD => ?ha2) (fun pha2 => ?na2)
                case ha2 =>
                  obtain ⟨c0, c1, c2'⟩ := FR.out w' hD.1
                  go_simp; rfl
                simp only [Act.put, List.setIfInBounds_toArray, List.set_cons_succ, List.set_cons_zero, Nat.reduceAdd]
                refine wM_op _ rfl rfl (opens_call ?fa3 ?ga3 (fun w' hD => ?ha3) (fun w' hD => ?ca3)) (fun v3 hv3 => ?na3)
                case ha3 => go_simp; constructor <;> rfl
                case ca3 =>
                  have K := KRE.out w' (hPi.trans hD.1) _ c Z (HI24.out w' hD.1) (by rw [HZm.out]; omega)
                  rw [HZm.out] at K
                  refine K.mono ?_
                  rintro e w2 ⟨A2, k2, rfl, ho, hb⟩
                  exact ⟨_, rfl, hb, A2, k2, rfl, Rd.of_own ho⟩
                obtain ⟨_, -, -, Aa, ka, rfl, -⟩ := hv3
                simp only [Act.put, List.setIfInBounds_toArray, List.set_cons_succ, List.set_cons_zero, Nat.reduceAdd]
                refine wM_op _ rfl rfl (opens_call ?fa4 ?ga4 (fun w' hD => ?ha4) (fun w' hD => ?ca4)) (fun v4 hv4 => ?na4)
                case ha4 => go_simp; constructor <;> rfl
                case ca4 =>
                  obtain ⟨-, A3, k3, e3, hr3⟩ := hD.get 3 (by first | kernel_rfl | simp [Region.binds])
                  cases e3
                  have K := KAG.out w' (hPi.trans hD.1) Aa ka Z _ rfl hr3
                  rw [hC] at K
                  refine K.mono ?_
                  rintro e w2 ⟨rfl, hb⟩
                  exact ⟨_, rfl, hb, rfl⟩
                obtain ⟨_, -, -, rfl⟩ := hv4
                simp only [Act.put, List.setIfInBounds_toArray, List.set_cons_succ, List.set_cons_zero, Nat.reduceAdd]
                refine wM_val ?ua5 rfl rfl Ext.refl (fun w' hD => ?ha5) (fun pha5 => ?na5)
                case ha5 =>
                  obtain ⟨c0, c1, c2'⟩ := FR.out w' hD.1
                  go_simp; rfl
                simp only [Act.put, List.setIfInBounds_toArray, List.set_cons_succ, List.set_cons_zero, Nat.reduceAdd]
                refine wM_val ?ua6 rfl rfl Ext.refl (fun w' hD => ?ha6) (fun pha6 => ?na6)
                case ha6 =>
                  obtain ⟨c0, c1, c2'⟩ := FR.out w' hD.1
                  go_simp; rfl
                simp only [Act.put, List.setIfInBounds_toArray, List.set_cons_succ, List.set_cons_zero, Nat.reduceAdd]
                refine wM_val ?ua7 rfl rfl Ext.refl (fun w' hD => ?ha7) (fun pha7 => ?na7)
                case ha7 =>
                  obtain ⟨c0, c1, c2'⟩ := FR.out w' hD.1
                  go_simp; rfl
                simp only [Act.put, List.setIfInBounds_toArray, List.set_cons_succ, List.set_cons_zero, Nat.reduceAdd]
                refine wM_val ?ua8 rfl rfl Ext.refl (fun w' hD => ?ha8) (fun pha8 => ?na8)
                case ha8 =>
                  obtain ⟨c0, c1, c2'⟩ := FR.out w' hD.1
                  go_simp; rfl
                simp only [Act.put, List.setIfInBounds_toArray, List.set_cons_succ, List.set_cons_zero, Nat.reduceAdd]
                refine wM_val ?ua9 rfl rfl Ext.refl (fun w' hD => ?ha9) (fun pha9 => ?na9)
                case ha9 =>
                  obtain ⟨c0, c1, c2'⟩ := FR.out w' hD.1
                  go_simp; rfl
                simp only [Act.put, List.setIfInBounds_toArray, List.set_cons_succ, List.set_cons_zero, Nat.reduceAdd]
                refine wM_val ?ua10 rfl rfl Ext.refl (fun w' hD => ?ha10) (fun pha10 => ?na10)
                case ha10 =>
                  obtain ⟨c0, c1, c2'⟩ := FR.out w' hD.1
                  go_simp; rfl
                simp only [Act.put, List.setIfInBounds_toArray, List.set_cons_succ, List.set_cons_zero, Nat.reduceAdd]
                refine wM_val ?ua11 rfl rfl Ext.refl (fun w' hD => ?ha11) (fun pha11 => ?na11)
                case ha11 =>
                  obtain ⟨c0, c1, c2'⟩ := FR.out w' hD.1
                  go_simp; rfl
                simp only [Act.put, List.setIfInBounds_toArray, List.set_cons_succ, List.set_cons_zero, Nat.reduceAdd]
                refine wM_val ?ua12 rfl rfl Ext.refl (fun w' hD => ?ha12) (fun pha12 => ?na12)
                case ha12 =>
                  obtain ⟨c0, c1, c2'⟩ := FR.out w' hD.1
                  go_simp; rfl
                simp only [Act.put, List.setIfInBounds_toArray, List.set_cons_succ, List.set_cons_zero, Nat.reduceAdd]
                refine wM_val ?ua13 rfl rfl Ext.refl (fun w' hD => ?ha13) (fun pha13 => ?na13)
                case ha13 =>
                  obtain ⟨c0, c1, c2'⟩ := FR.out w' hD.1
                  go_simp; rfl
                simp only [Act.put, List.setIfInBounds_toArray, List.set_cons_succ, List.set_cons_zero, Nat.reduceAdd]
                refine wM_op _ rfl rfl (opens_call ?fa14 ?ga14 (fun w' hD => ?ha14) (fun w' hD => ?ca14)) (fun v14 hv14 => ?na14)
                case ha14 => go_simp; constructor <;> rfl
                case ca14 =>
                  refine (KCM.out w' hD.1).mono ?_
                  rintro e w2 ⟨rfl, e2⟩
                  subst e2
                  exact ⟨_, rfl, Ext.refl _, rfl⟩
                obtain ⟨_, -, -, rfl⟩ := hv14
                simp only [Act.put, List.setIfInBounds_toArray, List.set_cons_succ, List.set_cons_zero, Nat.reduceAdd]
                refine wM_val ?ua15 rfl rfl Ext.refl (fun w' hD => ?ha15) (fun pha15 => ?na15)
                case ha15 =>
                  obtain ⟨c0, c1, c2'⟩ := FR.out w' hD.1
                  go_simp; rfl
                simp only [Act.put, List.setIfInBounds_toArray, List.set_cons_succ, List.set_cons_zero, Nat.reduceAdd]
                refine wM_val ?ua16 rfl rfl Ext.refl (fun w' hD => ?ha16) (fun pha16 => ?na16)
                case ha16 =>
                  obtain ⟨c0, c1, c2'⟩ := FR.out w' hD.1
                  go_simp; rfl
                simp only [Act.put, List.setIfInBounds_toArray, List.set_cons_succ, List.set_cons_zero, Nat.reduceAdd]
                refine wM_val ?ua17 rfl rfl Ext.refl (fun w' hD => ?ha17) (fun pha17 => ?na17)
                case ha17 =>
                  obtain ⟨c0, c1, c2'⟩ := FR.out w' hD.1
                  go_simp; rfl
                simp only [Act.put, List.setIfInBounds_toArray, List.set_cons_succ, List.set_cons_zero, Nat.reduceAdd]
                refine wM_nil ?_
                intro w9 hw9 hF9
                have hbF := hbl.trans ((hbN.trans (Ext.bel hw9)))
                have hhF := hhN.ext hw9
                clear hF9 KCM
                go_wp2
                go_roundw
                case rel => exact ⟨t + 1, by go_num, by omega, hbF, hhF⟩
                case measure => simp [intOf]; omega
              · subst hCc
                refine wp_region_shut Ext (fun w' => Ext w16 w') (fun
                  | 3 => some (fun v w' => ∃ A k, v = .slice A (rstL h Z).length k ∧ Ints w' A (rstL h Z))
                  | 4 => some (fun v _ => v = .bool false)
                  | _ => none) (by kernel_rfl) (by kernel_rfl) (fun _ _ h k => h.trans k) ?hTb (Ext.drew (Ext.refl w16)) ?_
                case hTb =>
                  intro i R hR
                  match i, hR with
                  | 3, hR => cases hR; exact fun v _ _ h hx => by obtain ⟨A, k, e, ho⟩ := h; exact ⟨A, k, e, Rd.ext ho hx⟩
                  | 4, hR => cases hR; exact fun _ _ _ h _ => h
                refine wM_val ?ub0 rfl rfl Ext.refl (fun w' hD => ?hb0) (fun phb0 => ?nb0)
                case hb0 =>
                  obtain ⟨c0, c1, c2'⟩ := FR.out w' hD.1
                  go_simp; rfl
                simp only [Act.put, List.setIfInBounds_toArray, List.set_cons_succ, List.set_cons_zero, Nat.reduceAdd]
                refine wM_val ?ub1 rfl rfl Ext.refl (fun w' hD => ?hb1) (fun phb1 => ?nb1)
                case hb1 =>
                  obtain ⟨c0, c1, c2'⟩ := FR.out w' hD.1
                  go_simp; rfl
                simp only [Act.put, List.setIfInBounds_toArray, List.set_cons_succ, List.set_cons_zero, Nat.reduceAdd]
                refine wM_val ?ub2 rfl rfl Ext.refl (fun w' hD => ?hb2) (fun phb2 => ?nb2)
                case hb2 =>
                  obtain ⟨c0, c1, c2'⟩ := FR.out w' hD.1
                  go_simp; rfl
                simp only [Act.put, List.setIfInBounds_toArray, List.set_cons_succ, List.set_cons_zero, Nat.reduceAdd]
                refine wM_op _ rfl rfl (opens_call ?fb3 ?gb3 (fun w' hD => ?hb3) (fun w' hD => ?cb3)) (fun v3 hv3 => ?nb3)
                case hb3 => go_simp; constructor <;> rfl
                case cb3 =>
                  have K := KRE.out w' (hPi.trans hD.1) _ c Z (HI24.out w' hD.1) (by rw [HZm.out]; omega)
                  rw [HZm.out] at K
                  refine K.mono ?_
                  rintro e w2 ⟨A2, k2, rfl, ho, hb⟩
                  exact ⟨_, rfl, hb, A2, k2, rfl, Rd.of_own ho⟩
                obtain ⟨_, -, -, Ab, kb, rfl, -⟩ := hv3
                simp only [Act.put, List.setIfInBounds_toArray, List.set_cons_succ, List.set_cons_zero, Nat.reduceAdd]
                refine wM_op _ rfl rfl (opens_call ?fb4 ?gb4 (fun w' hD => ?hb4) (fun w' hD => ?cb4)) (fun v4 hv4 => ?nb4)
                case hb4 => go_simp; constructor <;> rfl
                case cb4 =>
                  obtain ⟨-, A3, k3, e3, hr3⟩ := hD.get 3 (by first | kernel_rfl | simp [Region.binds])
                  cases e3
                  have K := KAG.out w' (hPi.trans hD.1) Ab kb Z _ rfl hr3
                  rw [hC] at K
                  refine K.mono ?_
                  rintro e w2 ⟨rfl, hb⟩
                  exact ⟨_, rfl, hb, rfl⟩
                obtain ⟨_, -, -, rfl⟩ := hv4
                simp only [Act.put, List.setIfInBounds_toArray, List.set_cons_succ, List.set_cons_zero, Nat.reduceAdd]
                refine wM_val ?ub5 rfl rfl Ext.refl (fun w' hD => ?hb5) (fun phb5 => ?nb5)
                case hb5 =>
                  obtain ⟨c0, c1, c2'⟩ := FR.out w' hD.1
                  go_simp; rfl
                simp only [Act.put, List.setIfInBounds_toArray, List.set_cons_succ, List.set_cons_zero, Nat.reduceAdd]
                refine wM_skip rfl ?_
                simp only [Act.put, List.setIfInBounds_toArray, List.set_cons_succ, List.set_cons_zero, Nat.reduceAdd]
                refine wM_skip rfl ?_
                simp only [Act.put, List.setIfInBounds_toArray, List.set_cons_succ, List.set_cons_zero, Nat.reduceAdd]
                refine wM_skip rfl ?_
                simp only [Act.put, List.setIfInBounds_toArray, List.set_cons_succ, List.set_cons_zero, Nat.reduceAdd]
                refine wM_skip rfl ?_
                simp only [Act.put, List.setIfInBounds_toArray, List.set_cons_succ, List.set_cons_zero, Nat.reduceAdd]
                refine wM_skip rfl ?_
                simp only [Act.put, List.setIfInBounds_toArray, List.set_cons_succ, List.set_cons_zero, Nat.reduceAdd]
                refine wM_skip rfl ?_
                simp only [Act.put, List.setIfInBounds_toArray, List.set_cons_succ, List.set_cons_zero, Nat.reduceAdd]
                refine wM_skip rfl ?_
                simp only [Act.put, List.setIfInBounds_toArray, List.set_cons_succ, List.set_cons_zero, Nat.reduceAdd]
                refine wM_skip rfl ?_
                simp only [Act.put, List.setIfInBounds_toArray, List.set_cons_succ, List.set_cons_zero, Nat.reduceAdd]
                refine wM_skip rfl ?_
                simp only [Act.put, List.setIfInBounds_toArray, List.set_cons_succ, List.set_cons_zero, Nat.reduceAdd]
                refine wM_skip rfl ?_
                simp only [Act.put, List.setIfInBounds_toArray, List.set_cons_succ, List.set_cons_zero, Nat.reduceAdd]
                refine wM_skip rfl ?_
                simp only [Act.put, List.setIfInBounds_toArray, List.set_cons_succ, List.set_cons_zero, Nat.reduceAdd]
                refine wM_val ?ub17 rfl rfl Ext.refl (fun w' hD => ?hb17) (fun phb17 => ?nb17)
                case hb17 =>
                  obtain ⟨c0, c1, c2'⟩ := FR.out w' hD.1
                  go_simp; rfl
                simp only [Act.put, List.setIfInBounds_toArray, List.set_cons_succ, List.set_cons_zero, Nat.reduceAdd]
                refine wM_nil ?_
                intro w9 hw9 hF9
                have hbF := hbl.trans ((hbN.trans (Ext.bel hw9)))
                have hhF := hhN.ext hw9
                clear hF9
                go_wp2
                go_roundw
                case rel => exact ⟨t + 1, by go_num, by omega, hbF, hhF⟩
                case measure => simp [intOf]; omega
        · have hlt' : ¬ (t : Int) < 8 := by omega
          have hfin := hx2.trans hPr
          go_wp2_with fail
          refine (awake_any _).mono ?_
          rintro e wq ⟨rfl, hxq⟩
          go_wp2
          go_ret
          exact ⟨rfl, hfin.trans hxq⟩
end Go.Proofs.YtjnobdcbbboeeaaGreat
