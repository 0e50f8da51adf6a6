/- The walk of FogFound. Printed by my gen_ffou.py. -/
import Derived.Test.YtlonpgbapiemcaaGreatFGSt
import Derived.Test.YtlonpgbapiemcaaGreatFMade
import Derived.Test.YtlonpgbapiemcaaGreatFTold
import Derived.Test.YtlonpgbapiemcaaGreatFTripP
import Derived.Test.YtlonpgbapiemcaaGreatG5
import Derived.Deep.DeepCutAuto
import Derived.Deep.CutBlock
import Derived.Test.YtlonpgbapiemcaaGreatFFouD
import Derived.Test.YtlonpgbapiemcaaGreatFRing
import Derived.Deep.RegionHeld3
import Derived.Deep.QuietTactic
import Derived.BigQuiet
namespace Go.Proofs.YtlonpgbapiemcaaGreat
open Go Go.RowKit Go.Shelf
set_option linter.unusedVariables false
set_option linter.unusedSimpArgs false
set_option maxRecDepth 100000 in
set_option maxHeartbeats 16000000 in
theorem fouw_any (A : Option Addr) (l : List Int) (cap : Nat) (Aq : Option Addr) (lq : List Int) (capq : Nat) (tu tv : Int) (w : World) (hA : Bytes w A l) (hl : ∀ x ∈ l, 0 ≤ x ∧ x ≤ 255) (hlt : ∀ a, A = some a → l = [] ∨ a.block < w.heap.size) (hn : l.length ≤ 9223372036854775807) (hAq : Bytes w Aq lq) (hlq : ∀ x ∈ lq, 0 ≤ x ∧ x ≤ 255) (hltq : ∀ a, Aq = some a → lq = [] ∨ a.block < w.heap.size) (hnq : lq.length ≤ 9223372036854775807) (htu : 0 ≤ tu ∧ tu ≤ 255) (htv : 0 ≤ tv ∧ tv ≤ 255) :
    Calls Tryz.prog 4 #[.slice A l.length cap, .slice Aq lq.length capq, .int .u8 tu, .int .u8 tv] w fun e w' => e = .returned (.bool true) ∧ Ext w w' := by
  have HPQ : Hid (∀ w', Ext w w' → Calls Tryz.prog 8 #[.slice Aq lq.length capq] w' fun e w2 => ∃ D, e = .returned (.pointer (some ⟨D, 0, none⟩)) ∧ w'.heap.size ≤ D ∧ Ext w' w2 ∧ HeapR w2 D) := fun w' h => pile_any Aq lq capq w' (Rd.ext hAq h) hlq (fun a e => (hltq a e).imp id (fun k => Nat.lt_of_lt_of_le k h.size)) hnq
  clear hAq hlq hltq hnq
  have K1 := hid (pile_any A l cap w hA hl hlt hn)
  clear hA hl hlt hn
  go_enter Tryz.func4, Tryz.ntmps4
  go_wp2_with fail
  refine K1.out.mono ?_
  clear K1
  rintro e w1 ⟨D, rfl, hD, hx1, hh1⟩
  have hDw := hh1.lt
  go_wp2_with fail
  refine (made_any D 7 6 1 w1 hh1 (by decide) (by decide) (by decide) (by decide) (by decide)).mono ?_
  rintro e w2 ⟨v, f, rfl, hMF, hLO, ⟨B, hB, hg⟩, hb2, hh2⟩
  have hx2 : Ext w w2 := hx1.then_bel hD hb2
  obtain ⟨s, xs, rfl, G0⟩ := GSt.start hg hh2 hx2 (by omega) hD
  obtain ⟨w3, hw3⟩ : ∃ w3, w2.alloc (.cells (mcells f s) 29) = w3 := ⟨_, rfl⟩
  obtain ⟨F, hF⟩ : ∃ F, w2.heap.size = F := ⟨_, rfl⟩
  rw [hw3, hF] at G0
  have HMF := hid hMF
  have HLO := hid hLO
  have HW3 := hid hw3
  have HF := hid hF
  unfold mcells at HW3
  clear hg hMF hLO hw3 hF hb2 hh2 hx1 hx2 hh1
  have G0c := G0.cells
  obtain ⟨c0, c1, c2, c3, c4⟩ := G0c
  unfold Ads.val fval
  go_upto_region 3 with fail
  rw [HW3.out, HF.out]
  clear HW3 HF
  obtain ⟨st, hct⟩ := made_one HMF.out (by decide)
  have HCA : Hid (f.ct[0]? = some ⟨st, []⟩) := by unfold Hid; rw [hct]; rfl
  have HCT := hid hct
  obtain ⟨g, ega, -, -, hFg, -, -⟩ := G0.setRp HCA.out (A := none) (cA := 0) (rs := []) (own_nil _ _ _ _)
  have hh3 := G0.hp
  have hct0 : 0 < f.ct.length := by rw [hct]; simp
  clear hct
  have FX : Hid (∀ w', (Bel D w3 w' ∧ HeapR w' D) → w'.cell? ⟨F, 0, none⟩ = some (.int .i64 f.pl) ∧ w'.cell? ⟨F, 1, none⟩ = some (.int .i64 f.mi) ∧ w'.cell? ⟨F, 2, none⟩ = some (.slice s.a1 f.tr.length s.c1) ∧ w'.cell? ⟨F, 3, none⟩ = some (.slice s.a2 f.bl.length s.c2) ∧ w'.cell? ⟨F, 4, none⟩ = some (.slice (some ⟨g, 0, none⟩) f.ct.length s.c3)) := fun w' h => by
    have q := (G0.bel h.1 h.2).cells
    rw [ega] at q
    exact q
  have HGV : Hid (∀ w', (Bel D w3 w' ∧ HeapR w' D) → OwnG w' (.agg #[.int .i64 f.pl, .int .i64 f.mi, .slice s.a1 f.tr.length s.c1, .slice s.a2 f.bl.length s.c2, .slice (some ⟨g, 0, none⟩) f.ct.length s.c3]) f) := fun w' h => by
    have q := (G0.bel h.1 h.2).g
    unfold Ads.val fval at q
    rw [ega] at q
    exact q
  have KW : Hid (∀ w', (Bel D w3 w' ∧ HeapR w' D) → Calls Tryz.prog 17 #[.pointer (some ⟨D, 0, none⟩), .agg #[.int .i64 f.pl, .int .i64 f.mi, .slice s.a1 f.tr.length s.c1, .slice s.a2 f.bl.length s.c2, .slice (some ⟨g, 0, none⟩) f.ct.length s.c3], .int .i64 0] w' fun e w2 => ∃ l A q, e = .returned (.slice A l.length q) ∧ Bel D w' w2 ∧ HeapR w2 D ∧ RealW f ⟨st, []⟩ l ∧ w2.ownsRow (D + 1) 3 1 (.slice A l.length q) l.length (l.map (.int .i64))) := fun w' h => by
    refine (walked_any D _ f 0 ⟨st, []⟩ w' h.2 (HGV.out w' h) HMF.out.ok HCA.out).mono ?_
    rintro e w2 ⟨l, A, q, B, rfl, hb, hh, hr, hB, ho⟩
    exact ⟨l, A, q, rfl, hb, hh, hr, own_lower ho (by have := h.2.lt; omega)⟩
  have KT : Hid (∀ (l : List Int) (A : Option Addr) (q : Nat) (w' : World), RealW f ⟨st, []⟩ l → w'.ownsRow (D + 1) 3 1 (.slice A l.length q) l.length (l.map (.int .i64)) → (Bel D w3 w' ∧ HeapR w' D) →
      Calls Tryz.prog 18 #[.pointer (some ⟨D, 0, none⟩), .agg #[.int .i64 f.pl, .int .i64 f.mi, .slice s.a1 f.tr.length s.c1, .slice s.a2 f.bl.length s.c2, .slice (some ⟨g, 0, none⟩) f.ct.length s.c3], .slice A l.length q, .int .i64 3] w' (ToldPost D w' f l)) := fun l A q w' hr ho h =>
    told_any D 3 _ f A q l (D + 1) w' h.2 (HGV.out w' h) HMF.out.ok hr.wl ho (by decide)
  go_wp2_with fail
  clear c0 c1 c2 c3 c4
  refine (KW.out _ ⟨Bel.refl D w3, hh3⟩).mono ?_
  rintro e wW ⟨la, AW, qW, rfl, hbW', hhW, hRA, hOA⟩
  clear KW
  obtain ⟨c0, c1, c2, c3, c4⟩ := FX.out wW ⟨hbW', hhW⟩
  go_upto_region 4 with fail
  clear c0 c1 c2 c3 c4
  go_cut [] (fun wx => ∃ rs xs', GSt D F (D + 1) w wx (oneC f st rs) s xs' ∧ OneF 7 6 (oneC f st rs) st rs la ∧ wx.ownsRow (D + 1) 3 1 (.slice AW la.length qW) la.length (la.map (.int .i64)))
  case first =>
    obtain ⟨hq0, hq1⟩ : Bel D w3 wW.drew ∧ HeapR wW.drew D := ⟨hbW'.trans (Bel.refl D wW).drew, hhW.ext (Ext.drew (Ext.refl _))⟩
    have hbd : Bel D wW wW.drew := (Bel.refl D wW).drew
    have hFg2 : g ≠ F := fun e => hFg e.symm
    have hOAd := hbd.own hOA (fun g hg e => by have := (hOA.lt g hg).1; omega)
    go_region_held3 (fun w' => w'.cell? ⟨F, 0, none⟩ = some (.int .i64 f.pl) ∧ w'.cell? ⟨F, 1, none⟩ = some (.int .i64 f.mi) ∧ w'.cell? ⟨F, 2, none⟩ = some (.slice s.a1 f.tr.length s.c1) ∧ w'.cell? ⟨F, 3, none⟩ = some (.slice s.a2 f.bl.length s.c2) ∧ w'.cell? ⟨F, 4, none⟩ = some (.slice (some ⟨g, 0, none⟩) f.ct.length s.c3))
      (first | exact FX.out _ ⟨hq0, hq1⟩ | exact FX.out _ ⟨hbW', hhW⟩ | exact FX.out _ ⟨hbT', hhT⟩ | (simp [go_sem, *]))
      (first
        | (go_at_call 18; refine (KT.out la _ _ _ hRA hOAd ⟨hq0, hq1⟩).mono ?_; rintro e wT ⟨rs, AT, cT, BT, rfl, hbT, hhT, hTR, hBT, hoT⟩; have hbT' := hq0.trans hbT; have GT := G0.bel hbT' hhT; obtain ⟨⟨u1, p1⟩, fz⟩ := GT.rpOne ega HCA.out; have f1 := fz 1))
    have hOT := hbT.own hOAd (fun g hg e => by have := (hOAd.lt g hg).1; omega)
    obtain ⟨g1, ea1, GA, kA, -, -, -⟩ := GT.setRp HCA.out (own_lower hoT (by have := hq0.size; have := hh3.lt; omega))
    obtain rfl : g = g1 := by rw [ega] at ea1; injection ea1 with ea1; injection ea1
    rw [with_one HCT.out] at GA
    go_wp2_with fail
    go_meet
    exact ⟨rs, _, GA, HMF.out.one_ HCT.out hRA hTR, kA (by decide) hOT⟩
  case rest =>
    clear G0 HMF HLO KT FX HGV hh3 HCA HCT hct0 hbW' hhW hRA hOA hFg
    obtain ⟨rs, xs', G, H1, hOA⟩ := hcut
    obtain ⟨w4, hw4⟩ : ∃ w4 : World, w4 = wc := ⟨_, rfl⟩
    subst hw4
    have HE := hid ega
    have H1 := hid H1
    clear ega
    obtain ⟨xa0, hxa0⟩ := get_of_lt la 0 (by have := H1.out.real.len; omega)
    obtain ⟨bA, oA, eA, -⟩ := Ints.at_ (Rd.of_own hOA) hxa0
    subst eA
    clear hxa0
    obtain ⟨CL, hQ⟩ := fou_ok H1.out
    have HQ := hid hQ
    have HSZ := hid (ok_sized H1.out.ok)
    have HOK := hid H1.out.ok
    have HEX := hid G.ext
    have hmi : 0 ≤ f.mi ∧ f.mi ≤ 8 := H1.out.ok.mi
    have hpl : 1 ≤ f.pl ∧ f.pl ≤ 8 := H1.out.ok.pl
    have hFlt := G.lt
    obtain ⟨A1', k1', A2', k2', HST⟩ : ∃ A1' k1' A2' k2', Hid (∀ w', Ext w4 w' → w'.cell? ⟨g, 0, none⟩ = some (.slice A1' st.length k1') ∧ Ints w' A1' st) := by
      obtain ⟨g', A1, k1, A2, k2, e1, exs, o1, o2, q0, q1⟩ := G.one rfl
      rw [HE.out] at e1
      injection e1 with e1
      injection e1 with e1
      subst e1
      exact ⟨A1, k1, A2, k2, fun w' h => ⟨h.cell q0, (Rd.of_own o1 : Ints w4 A1 st).ext h⟩⟩
    have FX4 : Hid (∀ w', Ext w4 w' → w'.cell? ⟨F, 0, none⟩ = some (.int .i64 f.pl) ∧ w'.cell? ⟨F, 1, none⟩ = some (.int .i64 f.mi) ∧ w'.cell? ⟨F, 2, none⟩ = some (.slice s.a1 f.tr.length s.c1) ∧ w'.cell? ⟨F, 3, none⟩ = some (.slice s.a2 f.bl.length s.c2) ∧ w'.cell? ⟨F, 4, none⟩ = some (.slice (some ⟨g, 0, none⟩) 1 s.c3)) := fun w' h => (G.out h).cells1 HE.out
    have HGO : Hid (∀ w', Ext w4 w' → OwnG w' (.agg #[.int .i64 f.pl, .int .i64 f.mi, .slice s.a1 f.tr.length s.c1, .slice s.a2 f.bl.length s.c2, .slice (some ⟨g, 0, none⟩) 1 s.c3]) (oneC f st rs)) := fun w' h => (G.out h).g1 HE.out
    have HGV : Hid (∀ w', Ext w4 w' → FgR w' (.agg #[.int .i64 f.pl, .int .i64 f.mi, .slice s.a1 f.tr.length s.c1, .slice s.a2 f.bl.length s.c2, .slice (some ⟨g, 0, none⟩) 1 s.c3]) (oneC f st rs)) := fun w' h => (HGO.out w' h).fg
    have HLA : Hid (∀ w', Ext w4 w' → Ints w' (some ⟨bA, oA, none⟩) la) := fun w' h => (Rd.of_own hOA : Ints w4 _ la).ext h
    obtain ⟨N, hN⟩ : ∃ N, countV (oneC f st rs) 0 = N := ⟨_, rfl⟩
    have P5 := countx_any _ (oneC f st rs) 0 w4 (HGV.out w4 (Ext.refl _)) HSZ.out
    have P6 := hid (fun w' (h : Ext w4 w') => check_any _ (oneC f st rs) w' (HGV.out w' h) HSZ.out)
    have hn1 := hQ.cnt.2
    rw [hQ.cnt.1, hN] at P5
    rw [hQ.ck] at P6
    rw [hN] at hn1
    have P5 := hid P5
    obtain ⟨MN, hMN⟩ : ∃ MN, f.mi.toNat + 1 = MN := ⟨_, rfl⟩
    have hMI : ((MN : Nat) : Int) = f.mi + 1 := by omega
    have hmk : ∀ w, (Instr.makeSlice 66 (.int .i64 (f.mi + 1)) (.int .i64 (f.mi + 1))).run Tryz.prog w = .ok (.slice (some ⟨w.heap.size, 0, none⟩) MN MN) (w.alloc (.cells (madeCells #[.slice none 0 0] MN) 37)) := fun w => by
      have h := run_make_row' (P := Tryz.prog) 66 37 (.slice none 0 0) 24 Tryz.underlying66 infoSlice rfl .i64 .i64 MN (by omega) (by omega) w
      rw [hMI] at h
      exact h
    have HMN := hid hMN
    have HMI := hid hMI
    have hMN9 : MN ≤ 9 := by omega
    clear hQ hN hMN hMI hOA
    obtain ⟨c0, c1, c2, c3, c4⟩ := FX4.out w4 (Ext.refl _)
    go_wp2_with fail
    clear c0 c1 c2 c3 c4
    refine P5.out.mono ?_
    clear P5
    rintro e w5 ⟨rfl, h5⟩
    obtain ⟨c0, c1, c2, c3, c4⟩ := FX4.out w5 h5
    go_wp2_with fail
    clear c0 c1 c2 c3 c4
    refine (P6.out w5 h5).mono ?_
    clear P6
    rintro e w6 ⟨rfl, h6'⟩
    have h6 := h5.trans h6'
    clear h5 h6'
    obtain ⟨Bc, hBc⟩ : ∃ Bc, w6.heap.size = Bc := ⟨_, rfl⟩
    obtain ⟨w7, hw7⟩ : ∃ w7, w6.alloc (.cells (madeCells #[.slice none 0 0] MN) 37) = w7 := ⟨_, rfl⟩
    have h67 : Ext w6 w7 := by rw [← hw7]; exact Ext.alloc (Ext.refl _) _
    have HC0 : Hid (CanSt w7 Bc MN CL 0) := by unfold Hid; rw [← hw7, ← hBc]; exact CanSt.start _ _ _
    have hBc6 : w6.heap.size ≤ Bc := by omega
    have HW7 := hid hw7
    have HBc := hid hBc
    clear hw7 hBc
    obtain ⟨c0, c1, c2, c3, c4⟩ := FX4.out w6 h6
    go_upto_region 9 with fail
    rw [HW7.out, HBc.out]
    clear c0 c1 c2 c3 c4 HW7 HBc hmk
    go_wp2
    go_loopw [83] (fun i83 wr => ∃ j : Nat, j ≤ MN ∧ i83 = .int .i64 (j : Int) ∧ Ext w6 wr ∧ CanSt wr Bc MN CL j) (fun i _ => MN - (intOf i).toNat)
    case atStart => exact ⟨0, Nat.zero_le _, rfl, h67, HC0.out⟩
    case round =>
      obtain ⟨j, hj, rfl, hxr, hcs⟩ := hrel
      have h4r := h6.trans hxr
      by_cases hlt : j < MN
      · as_aux_lemma =>
        · have hltI : (j : Int) < (MN : Int) := by omega
          have hj1 : j + 1 ≤ MN := hlt
          have hjm : j ≤ f.mi.toNat := by have := HMN.out; omega
          obtain ⟨LX, hLX⟩ : ∃ LX, CL j = LX := ⟨_, rfl⟩
          have P12 := at_any _ (oneC f st rs) 0 (j : Int) wr (HGV.out wr h4r) HSZ.out
          unfold AtPost at P12
          rw [(HQ.out.at0 j hjm).1, (HQ.out.at0 j hjm).2, hLX] at P12
          have P12 := hid P12
          have hmem := HQ.out.mem j hjm
          have hlen := HQ.out.len j
          have hreal := HQ.out.real j hjm
          rw [hLX] at hmem hlen hreal
          obtain ⟨xm, hxm⟩ := get_of_lt la j (by have e := H1.out.real.len; have e2 : (oneC f st rs).mi = f.mi := rfl; rw [e2] at e; have := HMN.out; omega)
          have hxd : la.getD j 0 = xm := by rw [List.getD_eq_getElem?_getD, hxm]; rfl
          rw [hxd] at hreal
          have kx : Hid (∀ w', Ext w4 w' → w'.cell? ⟨bA, oA + j, none⟩ = some (.int .i64 xm)) := fun w' h => by
            obtain ⟨b1, o1, e1, k1⟩ := Ints.at_ (HLA.out w' h) hxm
            cases e1
            exact k1
          have hjla : (j : Int) < (la.length : Int) := by have := (List.getElem?_eq_some_iff.1 hxm).1; omega
          have HLX := hid hLX
          have HMEM := hid hmem
          have HREAL := hid hreal
          have HCS := hid hcs
          clear hLX hmem hreal hxm hxd hcs
          obtain ⟨c0, c1, c2, c3, c4⟩ := FX4.out wr h4r
          go_wp2_with fail
          clear c0 c1 c2 c3 c4
          refine P12.out.mono ?_
          clear P12
          rintro e w8 ⟨r, rfl, h8, A1, k1, rfl, hI1, hk1⟩
          have hc8 := HCS.out.ext h8
          obtain ⟨⟨z8, p8⟩, f8⟩ := hc8.any hlt
          have hI1' := hI1
          rw [← HLX.out] at hI1' hk1
          have hc9 := hc8.set hlt hI1' hk1
          rw [HLX.out] at hc9
          have hI9 : Ints (w8.setCell ⟨Bc, j, none⟩ (.slice A1 LX.length k1)) A1 LX := by
            obtain ⟨vs, v1, v2, v3, -⟩ := hc8
            exact ints_set v1 v3 hI1 j _
          have hx9 : Ext w6 (w8.setCell ⟨Bc, j, none⟩ (.slice A1 LX.length k1)) := Ext.setCell (hxr.trans h8) hBc6 _
          obtain ⟨w9, hw9⟩ : ∃ w9, w8.setCell ⟨Bc, j, none⟩ (.slice A1 LX.length k1) = w9 := ⟨_, rfl⟩
          rw [hw9] at hc9 hI9 hx9
          have HC9 := hid hc9
          have HI9 := hid hI9
          have HW9 := hid hw9
          have h49 := h6.trans hx9
          clear hc8 hI1 hI1' hk1 hc9 hI9 hw9 HCS
          go_upto_region 14 with fail
          try rw [HW9.out]
          clear HW9 p8 f8
          have kxm := kx.out w9 h49
          have K14 := hid (containsI_any xm A1 k1 LX w9 HI9.out (by omega))
          rw [HREAL.out] at K14
          go_wp2_with fail
          refine K14.out.mono ?_
          clear K14 kxm
          rintro e w9' ⟨rfl, rfl⟩
          go_wp2
          go_loopw [109] (fun i109 wr => ∃ i : Nat, i ≤ LX.length ∧ i109 = .int .i64 (i : Int) ∧ Ext w9 wr) (fun i _ => LX.length - (intOf i).toNat)
          case atStart => exact ⟨0, Nat.zero_le _, rfl, Ext.refl _⟩
          case round =>
            obtain ⟨i, hi, rfl, hxi⟩ := hrel
            have h4i := h49.trans hxi
            by_cases hil : i < LX.length
            · as_aux_lemma =>
              · have hilI : (i : Int) < (LX.length : Int) := by omega
                have hi1 : i + 1 ≤ LX.length := hil
                obtain ⟨x, hx⟩ := get_of_lt LX i hil
                have hxb := HMEM.out x (mem_of_get hx)
                obtain ⟨b7, o7, e7, g7⟩ := Ints.at_ (HI9.out.ext hxi) hx
                have hwe := HQ.out.walk j hjm x (by rw [HLX.out]; exact mem_of_get hx)
                have P19 := walkx_any _ (oneC f st rs) 0 (j : Int) x wr (HGV.out wr h4i) HSZ.out
                unfold WalkxPost at P19
                rw [hwe] at P19
                have P19 := hid P19
                subst e7
                clear hx hwe
                obtain ⟨c0, c1, c2, c3, c4⟩ := FX4.out wr h4i
                go_wp2_with fail
                clear c0 c1 c2 c3 c4 g7
                refine P19.out.mono ?_
                clear P19
                rintro e w11 ⟨r, rfl, h11, hw, -⟩
                obtain ⟨l, gw, qw, rfl, ho, hfit, hat⟩ := hw (by first | rfl | trivial)
                rw [HQ.out.ct] at hfit
                rw [Int.toNat_natCast] at hat
                have h4j := h4i.trans h11
                obtain ⟨f1, f2, f3, f4⟩ := fits_pl hfit
                have hlm : l.length = MN := by have e2 : (oneC f st rs).mi = f.mi := rfl; rw [e2] at f1; rw [f1, HMN.out]
                have P20 := fitsx_any _ (oneC f st rs) 0 (some ⟨gw, 0, none⟩) qw l w11 (HGV.out w11 h4j) HSZ.out (Rd.of_own ho) (by omega) (own_cap ho)
                have hfv : fitsV (oneC f st rs) 0 l = true := by unfold fitsV; rw [HQ.out.cnt.1, HQ.out.ct, hfit]; rfl
                rw [hfv, HQ.out.cnt.1] at P20
                have P20 := hid P20
                have HFIT := hid hfit
                have HPL := hid f2
                have HSTM := hid f3
                have HOW := hid ho
                have HLM := hid hlm
                have hjl : j < l.length := by omega
                obtain ⟨xj, hxj⟩ := get_of_lt l j hjl
                have hxx : xj = x := by rw [← hat, List.getD_eq_getElem?_getD, hxj]; rfl
                have hlr : la.length = MN := by have e := H1.out.real.len; have e2 : (oneC f st rs).mi = f.mi := rfl; rw [e2] at e; rw [e, HMN.out]
                have HWJ : Hid (∀ w', Ext w11 w' → w'.cell? ⟨gw, j, none⟩ = some (.int .i64 x)) := fun w' h => by
                  obtain ⟨b1, o1, e1, k1⟩ := Ints.at_ (Rd.of_own (own_below HOW.out h) : Ints w' _ l) hxj
                  cases e1
                  rw [Nat.zero_add, hxx] at k1
                  exact k1
                have bll : ((l.length : Int) != (la.length : Int)) = false := by rw [hlm, hlr]; simp
                have hjlI : (j : Int) < (l.length : Int) := by omega
                have bxx : (x != x) = false := by simp
                clear hfv hfit f1 f2 f3 f4 ho hlm hxj hxx hat hlr
                obtain ⟨c0, c1, c2, c3, c4⟩ := FX4.out w11 h4j
                go_wp2_with fail
                clear c0 c1 c2 c3 c4
                refine P20.out.mono ?_
                clear P20
                rintro e w12 ⟨rfl, h12⟩
                have kj := HWJ.out w12 h12
                have h4k := h4j.trans h12
                have HOX := hid (own_below HOW.out h12)
                have h912 : Ext w9 w12 := hxi.trans (h11.trans h12)
                clear HWJ HOW h12 h11 h4j
                go_wp2
                clear kj
                go_loopw [153] (fun i153 wr => ∃ k : Nat, k ≤ l.length ∧ i153 = .int .i64 (k : Int) ∧ Ext w12 wr) (fun i _ => l.length - (intOf i).toNat)
                case atStart => exact ⟨0, Nat.zero_le _, rfl, Ext.refl _⟩
                case round =>
                  obtain ⟨k, hk, rfl, hxk⟩ := hrel
                  have h4m := h4k.trans hxk
                  by_cases hkl : k < l.length
                  · have hklI : (k : Int) < (l.length : Int) := by omega
                    have hk1 : k + 1 ≤ l.length := hkl
                    obtain ⟨y, hy⟩ := get_of_lt l k hkl
                    have hyb := HPL.out y (mem_of_get hy)
                    have hy1 : ¬ y < 0 := by omega
                    have hy2 : ¬ f.pl ≤ y := by have e2 : (oneC f st rs).pl = f.pl := rfl; rw [e2] at hyb; omega
                    have hd1 : decide (y < 0) = false := decide_eq_false hy1
                    have hd2 : decide (f.pl ≤ y) = false := decide_eq_false hy2
                    have HWK : Hid (∀ w', Ext w12 w' → ∀ k y, l[k]? = some y → w'.cell? ⟨gw, k, none⟩ = some (.int .i64 y)) := fun w' h k y hy => by
                      obtain ⟨b1, o1, e1, k1⟩ := Ints.at_ (Rd.of_own (own_below HOX.out h) : Ints w' _ l) hy
                      cases e1
                      rw [Nat.zero_add] at k1
                      exact k1
                    have v0 := HWK.out wr hxk k y hy
                    by_cases hk0 : k = 0
                    · as_aux_lemma =>
                      · subst hk0
                        have hys : memI y st = true := by
                          have := HSTM.out
                          rw [List.getD_eq_getElem?_getD, hy] at this
                          exact this
                        have HYS := hid hys
                        have FS : Hid (∀ w', Ext wr w' → (w'.cell? ⟨F, 0, none⟩ = some (.int .i64 f.pl) ∧ w'.cell? ⟨F, 1, none⟩ = some (.int .i64 f.mi) ∧ w'.cell? ⟨F, 2, none⟩ = some (.slice s.a1 f.tr.length s.c1) ∧ w'.cell? ⟨F, 3, none⟩ = some (.slice s.a2 f.bl.length s.c2) ∧ w'.cell? ⟨F, 4, none⟩ = some (.slice (some ⟨g, 0, none⟩) 1 s.c3)) ∧ w'.cell? ⟨g, 0, none⟩ = some (.slice A1' st.length k1')) := fun w' h => ⟨FX4.out w' (h4m.trans h), (HST.out w' (h4m.trans h)).1⟩
                        have hq0 : Ext wr wr.drew := Ext.drew (Ext.refl _)
                        have hst8 : st.length ≤ 8 := by have := st_len HOK.out H1.out.mem; dsimp only at this; omega
                        have KC : Hid (∀ w', Ext wr w' → Calls Tryz.prog 11 #[.slice A1' st.length k1', .int .i64 y] w' fun e w2 => e = .returned (.bool true) ∧ Ext w' w2) := fun w' h => by
                          have K := containsI_any y A1' k1' st w' (HST.out w' (h4m.trans h)).2 (by omega)
                          rw [HYS.out] at K
                          exact K.mono fun e w2 ⟨e1, e2⟩ => ⟨e1, e2 ▸ Ext.refl _⟩
                        clear hy hys HWK
                        go_wp2
                        refine wp_region_shut Ext (fun w' => Ext wr w') (fun
                          | 43 => some (fun v w' => v = .bool true)
                          | _ => none) (by kernel_rfl) (by kernel_rfl) (fun _ _ h k => h.trans k) ?hTka (Ext.drew (Ext.refl wr)) ?_
                        case hTka =>
                          intro i R hR
                          match i, hR with
                          | 43, hR => cases hR; exact fun _ _ _ h _ => h
                        refine wM_val ?uka0 rfl rfl Ext.refl (fun w' hD => ?hka0) (fun phka0 => ?nka0)
                        case hka0 =>
                          obtain ⟨⟨d0, d1, d2, d3, d4⟩, d5⟩ := FS.out w' hD.1
                          go_simp; rfl
                        simp only [Act.put, List.setIfInBounds_toArray, List.set_cons_succ, List.set_cons_zero, Nat.reduceAdd]
                        refine wM_val ?uka1 rfl rfl Ext.refl (fun w' hD => ?hka1) (fun phka1 => ?nka1)
                        case hka1 =>
                          obtain ⟨⟨d0, d1, d2, d3, d4⟩, d5⟩ := FS.out w' hD.1
                          go_simp; rfl
                        simp only [Act.put, List.setIfInBounds_toArray, List.set_cons_succ, List.set_cons_zero, Nat.reduceAdd]
                        refine wM_val ?uka2 rfl rfl Ext.refl (fun w' hD => ?hka2) (fun phka2 => ?nka2)
                        case hka2 =>
                          obtain ⟨⟨d0, d1, d2, d3, d4⟩, d5⟩ := FS.out w' hD.1
                          go_simp; rfl
                        simp only [Act.put, List.setIfInBounds_toArray, List.set_cons_succ, List.set_cons_zero, Nat.reduceAdd]
                        refine wM_val ?uka3 rfl rfl Ext.refl (fun w' hD => ?hka3) (fun phka3 => ?nka3)
                        case hka3 =>
                          obtain ⟨⟨d0, d1, d2, d3, d4⟩, d5⟩ := FS.out w' hD.1
                          go_simp; rfl
                        simp only [Act.put, List.setIfInBounds_toArray, List.set_cons_succ, List.set_cons_zero, Nat.reduceAdd]
                        refine wM_val ?uka4 rfl rfl Ext.refl (fun w' hD => ?hka4) (fun phka4 => ?nka4)
                        case hka4 =>
                          obtain ⟨⟨d0, d1, d2, d3, d4⟩, d5⟩ := FS.out w' hD.1
                          go_simp; rfl
                        simp only [Act.put, List.setIfInBounds_toArray, List.set_cons_succ, List.set_cons_zero, Nat.reduceAdd]
                        refine wM_val ?uka5 rfl rfl Ext.refl (fun w' hD => ?hka5) (fun phka5 => ?nka5)
                        case hka5 =>
                          obtain ⟨⟨d0, d1, d2, d3, d4⟩, d5⟩ := FS.out w' hD.1
                          go_simp; rfl
                        simp only [Act.put, List.setIfInBounds_toArray, List.set_cons_succ, List.set_cons_zero, Nat.reduceAdd]
                        refine wM_val ?uka6 rfl rfl Ext.refl (fun w' hD => ?hka6) (fun phka6 => ?nka6)
                        case hka6 =>
                          obtain ⟨⟨d0, d1, d2, d3, d4⟩, d5⟩ := FS.out w' hD.1
                          go_simp; rfl
                        simp only [Act.put, List.setIfInBounds_toArray, List.set_cons_succ, List.set_cons_zero, Nat.reduceAdd]
                        refine wM_val ?uka7 rfl rfl Ext.refl (fun w' hD => ?hka7) (fun phka7 => ?nka7)
                        case hka7 =>
                          obtain ⟨⟨d0, d1, d2, d3, d4⟩, d5⟩ := FS.out w' hD.1
                          go_simp; rfl
                        simp only [Act.put, List.setIfInBounds_toArray, List.set_cons_succ, List.set_cons_zero, Nat.reduceAdd]
                        refine wM_val ?uka8 rfl rfl Ext.refl (fun w' hD => ?hka8) (fun phka8 => ?nka8)
                        case hka8 =>
                          obtain ⟨⟨d0, d1, d2, d3, d4⟩, d5⟩ := FS.out w' hD.1
                          go_simp; rfl
                        simp only [Act.put, List.setIfInBounds_toArray, List.set_cons_succ, List.set_cons_zero, Nat.reduceAdd]
                        refine wM_val ?uka9 rfl rfl Ext.refl (fun w' hD => ?hka9) (fun phka9 => ?nka9)
                        case hka9 =>
                          obtain ⟨⟨d0, d1, d2, d3, d4⟩, d5⟩ := FS.out w' hD.1
                          go_simp; rfl
                        simp only [Act.put, List.setIfInBounds_toArray, List.set_cons_succ, List.set_cons_zero, Nat.reduceAdd]
                        refine wM_val ?uka10 rfl rfl Ext.refl (fun w' hD => ?hka10) (fun phka10 => ?nka10)
                        case hka10 =>
                          obtain ⟨⟨d0, d1, d2, d3, d4⟩, d5⟩ := FS.out w' hD.1
                          go_simp; rfl
                        simp only [Act.put, List.setIfInBounds_toArray, List.set_cons_succ, List.set_cons_zero, Nat.reduceAdd]
                        refine wM_val ?uka11 rfl rfl Ext.refl (fun w' hD => ?hka11) (fun phka11 => ?nka11)
                        case hka11 =>
                          obtain ⟨⟨d0, d1, d2, d3, d4⟩, d5⟩ := FS.out w' hD.1
                          go_simp; rfl
                        simp only [Act.put, List.setIfInBounds_toArray, List.set_cons_succ, List.set_cons_zero, Nat.reduceAdd]
                        refine wM_val ?uka12 rfl rfl Ext.refl (fun w' hD => ?hka12) (fun phka12 => ?nka12)
                        case hka12 =>
                          obtain ⟨⟨d0, d1, d2, d3, d4⟩, d5⟩ := FS.out w' hD.1
                          go_simp; rfl
                        simp only [Act.put, List.setIfInBounds_toArray, List.set_cons_succ, List.set_cons_zero, Nat.reduceAdd]
                        refine wM_skip rfl ?_
                        simp only [Act.put, List.setIfInBounds_toArray, List.set_cons_succ, List.set_cons_zero, Nat.reduceAdd]
                        refine wM_skip rfl ?_
                        simp only [Act.put, List.setIfInBounds_toArray, List.set_cons_succ, List.set_cons_zero, Nat.reduceAdd]
                        refine wM_skip rfl ?_
                        simp only [Act.put, List.setIfInBounds_toArray, List.set_cons_succ, List.set_cons_zero, Nat.reduceAdd]
                        refine wM_skip rfl ?_
                        simp only [Act.put, List.setIfInBounds_toArray, List.set_cons_succ, List.set_cons_zero, Nat.reduceAdd]
                        refine wM_skip rfl ?_
                        simp only [Act.put, List.setIfInBounds_toArray, List.set_cons_succ, List.set_cons_zero, Nat.reduceAdd]
                        refine wM_skip rfl ?_
                        simp only [Act.put, List.setIfInBounds_toArray, List.set_cons_succ, List.set_cons_zero, Nat.reduceAdd]
                        refine wM_skip rfl ?_
                        simp only [Act.put, List.setIfInBounds_toArray, List.set_cons_succ, List.set_cons_zero, Nat.reduceAdd]
                        refine wM_val ?uka20 rfl rfl Ext.refl (fun w' hD => ?hka20) (fun phka20 => ?nka20)
                        case hka20 =>
                          obtain ⟨⟨d0, d1, d2, d3, d4⟩, d5⟩ := FS.out w' hD.1
                          go_simp; rfl
                        simp only [Act.put, List.setIfInBounds_toArray, List.set_cons_succ, List.set_cons_zero, Nat.reduceAdd]
                        refine wM_val ?uka21 rfl rfl Ext.refl (fun w' hD => ?hka21) (fun phka21 => ?nka21)
                        case hka21 =>
                          obtain ⟨⟨d0, d1, d2, d3, d4⟩, d5⟩ := FS.out w' hD.1
                          go_simp; rfl
                        simp only [Act.put, List.setIfInBounds_toArray, List.set_cons_succ, List.set_cons_zero, Nat.reduceAdd]
                        refine wM_skip rfl ?_
                        simp only [Act.put, List.setIfInBounds_toArray, List.set_cons_succ, List.set_cons_zero, Nat.reduceAdd]
                        refine wM_skip rfl ?_
                        simp only [Act.put, List.setIfInBounds_toArray, List.set_cons_succ, List.set_cons_zero, Nat.reduceAdd]
                        refine wM_skip rfl ?_
                        simp only [Act.put, List.setIfInBounds_toArray, List.set_cons_succ, List.set_cons_zero, Nat.reduceAdd]
                        refine wM_skip rfl ?_
                        simp only [Act.put, List.setIfInBounds_toArray, List.set_cons_succ, List.set_cons_zero, Nat.reduceAdd]
                        refine wM_skip rfl ?_
                        simp only [Act.put, List.setIfInBounds_toArray, List.set_cons_succ, List.set_cons_zero, Nat.reduceAdd]
                        refine wM_skip rfl ?_
                        simp only [Act.put, List.setIfInBounds_toArray, List.set_cons_succ, List.set_cons_zero, Nat.reduceAdd]
                        refine wM_skip rfl ?_
                        simp only [Act.put, List.setIfInBounds_toArray, List.set_cons_succ, List.set_cons_zero, Nat.reduceAdd]
                        refine wM_skip rfl ?_
                        simp only [Act.put, List.setIfInBounds_toArray, List.set_cons_succ, List.set_cons_zero, Nat.reduceAdd]
                        refine wM_skip rfl ?_
                        simp only [Act.put, List.setIfInBounds_toArray, List.set_cons_succ, List.set_cons_zero, Nat.reduceAdd]
                        refine wM_val ?uka31 rfl rfl Ext.refl (fun w' hD => ?hka31) (fun phka31 => ?nka31)
                        case hka31 =>
                          obtain ⟨⟨d0, d1, d2, d3, d4⟩, d5⟩ := FS.out w' hD.1
                          go_simp; rfl
                        simp only [Act.put, List.setIfInBounds_toArray, List.set_cons_succ, List.set_cons_zero, Nat.reduceAdd]
                        refine wM_val ?uka32 rfl rfl Ext.refl (fun w' hD => ?hka32) (fun phka32 => ?nka32)
                        case hka32 =>
                          obtain ⟨⟨d0, d1, d2, d3, d4⟩, d5⟩ := FS.out w' hD.1
                          go_simp; rfl
                        simp only [Act.put, List.setIfInBounds_toArray, List.set_cons_succ, List.set_cons_zero, Nat.reduceAdd]
                        refine wM_val ?uka33 rfl rfl Ext.refl (fun w' hD => ?hka33) (fun phka33 => ?nka33)
                        case hka33 =>
                          obtain ⟨⟨d0, d1, d2, d3, d4⟩, d5⟩ := FS.out w' hD.1
                          go_simp; rfl
                        simp only [Act.put, List.setIfInBounds_toArray, List.set_cons_succ, List.set_cons_zero, Nat.reduceAdd]
                        refine wM_val ?uka34 rfl rfl Ext.refl (fun w' hD => ?hka34) (fun phka34 => ?nka34)
                        case hka34 =>
                          obtain ⟨⟨d0, d1, d2, d3, d4⟩, d5⟩ := FS.out w' hD.1
                          go_simp; rfl
                        simp only [Act.put, List.setIfInBounds_toArray, List.set_cons_succ, List.set_cons_zero, Nat.reduceAdd]
                        refine wM_val ?uka35 rfl rfl Ext.refl (fun w' hD => ?hka35) (fun phka35 => ?nka35)
                        case hka35 =>
                          obtain ⟨⟨d0, d1, d2, d3, d4⟩, d5⟩ := FS.out w' hD.1
                          go_simp; rfl
                        simp only [Act.put, List.setIfInBounds_toArray, List.set_cons_succ, List.set_cons_zero, Nat.reduceAdd]
                        refine wM_val ?uka36 rfl rfl Ext.refl (fun w' hD => ?hka36) (fun phka36 => ?nka36)
                        case hka36 =>
                          obtain ⟨⟨d0, d1, d2, d3, d4⟩, d5⟩ := FS.out w' hD.1
                          go_simp; rfl
                        simp only [Act.put, List.setIfInBounds_toArray, List.set_cons_succ, List.set_cons_zero, Nat.reduceAdd]
                        refine wM_val ?uka37 rfl rfl Ext.refl (fun w' hD => ?hka37) (fun phka37 => ?nka37)
                        case hka37 =>
                          obtain ⟨⟨d0, d1, d2, d3, d4⟩, d5⟩ := FS.out w' hD.1
                          go_simp; rfl
                        simp only [Act.put, List.setIfInBounds_toArray, List.set_cons_succ, List.set_cons_zero, Nat.reduceAdd]
                        refine wM_val ?uka38 rfl rfl Ext.refl (fun w' hD => ?hka38) (fun phka38 => ?nka38)
                        case hka38 =>
                          obtain ⟨⟨d0, d1, d2, d3, d4⟩, d5⟩ := FS.out w' hD.1
                          go_simp; rfl
                        simp only [Act.put, List.setIfInBounds_toArray, List.set_cons_succ, List.set_cons_zero, Nat.reduceAdd]
                        refine wM_val ?uka39 rfl rfl Ext.refl (fun w' hD => ?hka39) (fun phka39 => ?nka39)
                        case hka39 =>
                          obtain ⟨⟨d0, d1, d2, d3, d4⟩, d5⟩ := FS.out w' hD.1
                          go_simp; rfl
                        simp only [Act.put, List.setIfInBounds_toArray, List.set_cons_succ, List.set_cons_zero, Nat.reduceAdd]
                        refine wM_val ?uka40 rfl rfl Ext.refl (fun w' hD => ?hka40) (fun phka40 => ?nka40)
                        case hka40 =>
                          obtain ⟨⟨d0, d1, d2, d3, d4⟩, d5⟩ := FS.out w' hD.1
                          go_simp; rfl
                        simp only [Act.put, List.setIfInBounds_toArray, List.set_cons_succ, List.set_cons_zero, Nat.reduceAdd]
                        refine wM_val ?uka41 rfl rfl Ext.refl (fun w' hD => ?hka41) (fun phka41 => ?nka41)
                        case hka41 =>
                          obtain ⟨⟨d0, d1, d2, d3, d4⟩, d5⟩ := FS.out w' hD.1
                          go_simp; rfl
                        simp only [Act.put, List.setIfInBounds_toArray, List.set_cons_succ, List.set_cons_zero, Nat.reduceAdd]
                        refine wM_val ?uka42 rfl rfl Ext.refl (fun w' hD => ?hka42) (fun phka42 => ?nka42)
                        case hka42 =>
                          obtain ⟨⟨d0, d1, d2, d3, d4⟩, d5⟩ := FS.out w' hD.1
                          go_simp; rfl
                        simp only [Act.put, List.setIfInBounds_toArray, List.set_cons_succ, List.set_cons_zero, Nat.reduceAdd]
                        refine wM_op _ rfl rfl (opens_call ?fka43 ?gka43 (fun w' hD => ?hka43) (fun w' hD => ?cka43)) (fun v43 hv43 => ?nka43)
                        case hka43 => go_simp; constructor <;> rfl
                        case cka43 =>
                          refine (KC.out w' hD.1).mono ?_
                          rintro e w2 ⟨rfl, hb⟩
                          exact ⟨_, rfl, hb, rfl⟩
                        obtain ⟨_, -, -, rfl⟩ := hv43
                        simp only [Act.put, List.setIfInBounds_toArray, List.set_cons_succ, List.set_cons_zero, Nat.reduceAdd]
                        refine wM_val ?uka44 rfl rfl Ext.refl (fun w' hD => ?hka44) (fun phka44 => ?nka44)
                        case hka44 =>
                          obtain ⟨⟨d0, d1, d2, d3, d4⟩, d5⟩ := FS.out w' hD.1
                          go_simp; rfl
                        simp only [Act.put, List.setIfInBounds_toArray, List.set_cons_succ, List.set_cons_zero, Nat.reduceAdd]
                        refine wM_val ?uka45 rfl rfl Ext.refl (fun w' hD => ?hka45) (fun phka45 => ?nka45)
                        case hka45 =>
                          obtain ⟨⟨d0, d1, d2, d3, d4⟩, d5⟩ := FS.out w' hD.1
                          go_simp; rfl
                        simp only [Act.put, List.setIfInBounds_toArray, List.set_cons_succ, List.set_cons_zero, Nat.reduceAdd]
                        refine wM_val ?uka46 rfl rfl Ext.refl (fun w' hD => ?hka46) (fun phka46 => ?nka46)
                        case hka46 =>
                          obtain ⟨⟨d0, d1, d2, d3, d4⟩, d5⟩ := FS.out w' hD.1
                          go_simp; rfl
                        simp only [Act.put, List.setIfInBounds_toArray, List.set_cons_succ, List.set_cons_zero, Nat.reduceAdd]
                        refine wM_nil ?_
                        intro w9 hw9 hF9
                        clear hF9
                        have hxN := hxk.trans hw9
                        go_wp2
                        go_roundw
                        case rel => exact ⟨0 + 1, hk1, by go_num, hxN⟩
                        case measure => simp [intOf]; omega
                    · obtain ⟨k', rfl⟩ : ∃ k', k = k' + 1 := ⟨k - 1, by omega⟩
                      obtain ⟨z, hz⟩ := get_of_lt l k' (by omega)
                      have v1 := HWK.out wr hxk k' z hz
                      have hkz : (0 : Int) < ((k' + 1 : Nat) : Int) := by omega
                      have hk'I : (k' : Int) < (l.length : Int) := by omega
                      have hl9 : l.length ≤ 9 := by have := HLM.out; omega
                      have hk'w : IntKind.i64.wrap (k' : Int) = (k' : Int) := IntWalk.i64_in _ ⟨by omega, by omega⟩
                      have hk'0 : (0 : Int) ≤ (k' : Int) := by omega
                      by_cases hzy : z = y
                      · as_aux_lemma =>
                        · have bz : (z != y) = false := by simp [hzy]
                          have FS : Hid (∀ w', Ext wr w' → (w'.cell? ⟨F, 0, none⟩ = some (.int .i64 f.pl) ∧ w'.cell? ⟨F, 1, none⟩ = some (.int .i64 f.mi) ∧ w'.cell? ⟨F, 2, none⟩ = some (.slice s.a1 f.tr.length s.c1) ∧ w'.cell? ⟨F, 3, none⟩ = some (.slice s.a2 f.bl.length s.c2) ∧ w'.cell? ⟨F, 4, none⟩ = some (.slice (some ⟨g, 0, none⟩) 1 s.c3)) ∧ w'.cell? ⟨gw, k', none⟩ = some (.int .i64 z)) := fun w' h => ⟨FX4.out w' (h4m.trans h), h.cell v1⟩
                          clear hy hz HWK hzy
                          go_wp2
                          refine wp_region_shut Ext (fun w' => Ext wr w') (fun
                            | _ => none) (by kernel_rfl) (by kernel_rfl) (fun _ _ h k => h.trans k) ?hTkb (Ext.drew (Ext.refl wr)) ?_
                          case hTkb =>
                            intro i R hR
                            cases hR
                          refine wM_val ?ukb0 rfl rfl Ext.refl (fun w' hD => ?hkb0) (fun phkb0 => ?nkb0)
                          case hkb0 =>
                            obtain ⟨⟨d0, d1, d2, d3, d4⟩, d5⟩ := FS.out w' hD.1
                            go_simp; rfl
                          simp only [Act.put, List.setIfInBounds_toArray, List.set_cons_succ, List.set_cons_zero, Nat.reduceAdd]
                          refine wM_val ?ukb1 rfl rfl Ext.refl (fun w' hD => ?hkb1) (fun phkb1 => ?nkb1)
                          case hkb1 =>
                            obtain ⟨⟨d0, d1, d2, d3, d4⟩, d5⟩ := FS.out w' hD.1
                            go_simp; rfl
                          simp only [Act.put, List.setIfInBounds_toArray, List.set_cons_succ, List.set_cons_zero, Nat.reduceAdd]
                          refine wM_val ?ukb2 rfl rfl Ext.refl (fun w' hD => ?hkb2) (fun phkb2 => ?nkb2)
                          case hkb2 =>
                            obtain ⟨⟨d0, d1, d2, d3, d4⟩, d5⟩ := FS.out w' hD.1
                            go_simp; rfl
                          simp only [Act.put, List.setIfInBounds_toArray, List.set_cons_succ, List.set_cons_zero, Nat.reduceAdd]
                          refine wM_val ?ukb3 rfl rfl Ext.refl (fun w' hD => ?hkb3) (fun phkb3 => ?nkb3)
                          case hkb3 =>
                            obtain ⟨⟨d0, d1, d2, d3, d4⟩, d5⟩ := FS.out w' hD.1
                            go_simp; rfl
                          simp only [Act.put, List.setIfInBounds_toArray, List.set_cons_succ, List.set_cons_zero, Nat.reduceAdd]
                          refine wM_val ?ukb4 rfl rfl Ext.refl (fun w' hD => ?hkb4) (fun phkb4 => ?nkb4)
                          case hkb4 =>
                            obtain ⟨⟨d0, d1, d2, d3, d4⟩, d5⟩ := FS.out w' hD.1
                            go_simp; rfl
                          simp only [Act.put, List.setIfInBounds_toArray, List.set_cons_succ, List.set_cons_zero, Nat.reduceAdd]
                          refine wM_val ?ukb5 rfl rfl Ext.refl (fun w' hD => ?hkb5) (fun phkb5 => ?nkb5)
                          case hkb5 =>
                            obtain ⟨⟨d0, d1, d2, d3, d4⟩, d5⟩ := FS.out w' hD.1
                            go_simp; rfl
                          simp only [Act.put, List.setIfInBounds_toArray, List.set_cons_succ, List.set_cons_zero, Nat.reduceAdd]
                          refine wM_val ?ukb6 rfl rfl Ext.refl (fun w' hD => ?hkb6) (fun phkb6 => ?nkb6)
                          case hkb6 =>
                            obtain ⟨⟨d0, d1, d2, d3, d4⟩, d5⟩ := FS.out w' hD.1
                            go_simp; rfl
                          simp only [Act.put, List.setIfInBounds_toArray, List.set_cons_succ, List.set_cons_zero, Nat.reduceAdd]
                          refine wM_val ?ukb7 rfl rfl Ext.refl (fun w' hD => ?hkb7) (fun phkb7 => ?nkb7)
                          case hkb7 =>
                            obtain ⟨⟨d0, d1, d2, d3, d4⟩, d5⟩ := FS.out w' hD.1
                            go_simp; rfl
                          simp only [Act.put, List.setIfInBounds_toArray, List.set_cons_succ, List.set_cons_zero, Nat.reduceAdd]
                          refine wM_val ?ukb8 rfl rfl Ext.refl (fun w' hD => ?hkb8) (fun phkb8 => ?nkb8)
                          case hkb8 =>
                            obtain ⟨⟨d0, d1, d2, d3, d4⟩, d5⟩ := FS.out w' hD.1
                            go_simp; rfl
                          simp only [Act.put, List.setIfInBounds_toArray, List.set_cons_succ, List.set_cons_zero, Nat.reduceAdd]
                          refine wM_val ?ukb9 rfl rfl Ext.refl (fun w' hD => ?hkb9) (fun phkb9 => ?nkb9)
                          case hkb9 =>
                            obtain ⟨⟨d0, d1, d2, d3, d4⟩, d5⟩ := FS.out w' hD.1
                            go_simp; rfl
                          simp only [Act.put, List.setIfInBounds_toArray, List.set_cons_succ, List.set_cons_zero, Nat.reduceAdd]
                          refine wM_val ?ukb10 rfl rfl Ext.refl (fun w' hD => ?hkb10) (fun phkb10 => ?nkb10)
                          case hkb10 =>
                            obtain ⟨⟨d0, d1, d2, d3, d4⟩, d5⟩ := FS.out w' hD.1
                            go_simp; rfl
                          simp only [Act.put, List.setIfInBounds_toArray, List.set_cons_succ, List.set_cons_zero, Nat.reduceAdd]
                          refine wM_val ?ukb11 rfl rfl Ext.refl (fun w' hD => ?hkb11) (fun phkb11 => ?nkb11)
                          case hkb11 =>
                            obtain ⟨⟨d0, d1, d2, d3, d4⟩, d5⟩ := FS.out w' hD.1
                            go_simp; rfl
                          simp only [Act.put, List.setIfInBounds_toArray, List.set_cons_succ, List.set_cons_zero, Nat.reduceAdd]
                          refine wM_val ?ukb12 rfl rfl Ext.refl (fun w' hD => ?hkb12) (fun phkb12 => ?nkb12)
                          case hkb12 =>
                            obtain ⟨⟨d0, d1, d2, d3, d4⟩, d5⟩ := FS.out w' hD.1
                            go_simp; rfl
                          simp only [Act.put, List.setIfInBounds_toArray, List.set_cons_succ, List.set_cons_zero, Nat.reduceAdd]
                          refine wM_val ?ukb13 rfl rfl Ext.refl (fun w' hD => ?hkb13) (fun phkb13 => ?nkb13)
                          case hkb13 =>
                            obtain ⟨⟨d0, d1, d2, d3, d4⟩, d5⟩ := FS.out w' hD.1
                            go_simp; rfl
                          simp only [Act.put, List.setIfInBounds_toArray, List.set_cons_succ, List.set_cons_zero, Nat.reduceAdd]
                          refine wM_val ?ukb14 rfl rfl Ext.refl (fun w' hD => ?hkb14) (fun phkb14 => ?nkb14)
                          case hkb14 =>
                            obtain ⟨⟨d0, d1, d2, d3, d4⟩, d5⟩ := FS.out w' hD.1
                            go_simp; rfl
                          simp only [Act.put, List.setIfInBounds_toArray, List.set_cons_succ, List.set_cons_zero, Nat.reduceAdd]
                          refine wM_val ?ukb15 rfl rfl Ext.refl (fun w' hD => ?hkb15) (fun phkb15 => ?nkb15)
                          case hkb15 =>
                            obtain ⟨⟨d0, d1, d2, d3, d4⟩, d5⟩ := FS.out w' hD.1
                            go_simp; rfl
                          simp only [Act.put, List.setIfInBounds_toArray, List.set_cons_succ, List.set_cons_zero, Nat.reduceAdd]
                          refine wM_val ?ukb16 rfl rfl Ext.refl (fun w' hD => ?hkb16) (fun phkb16 => ?nkb16)
                          case hkb16 =>
                            obtain ⟨⟨d0, d1, d2, d3, d4⟩, d5⟩ := FS.out w' hD.1
                            go_simp; rfl
                          simp only [Act.put, List.setIfInBounds_toArray, List.set_cons_succ, List.set_cons_zero, Nat.reduceAdd]
                          refine wM_val ?ukb17 rfl rfl Ext.refl (fun w' hD => ?hkb17) (fun phkb17 => ?nkb17)
                          case hkb17 =>
                            obtain ⟨⟨d0, d1, d2, d3, d4⟩, d5⟩ := FS.out w' hD.1
                            go_simp; rfl
                          simp only [Act.put, List.setIfInBounds_toArray, List.set_cons_succ, List.set_cons_zero, Nat.reduceAdd]
                          refine wM_val ?ukb18 rfl rfl Ext.refl (fun w' hD => ?hkb18) (fun phkb18 => ?nkb18)
                          case hkb18 =>
                            obtain ⟨⟨d0, d1, d2, d3, d4⟩, d5⟩ := FS.out w' hD.1
                            go_simp; rfl
                          simp only [Act.put, List.setIfInBounds_toArray, List.set_cons_succ, List.set_cons_zero, Nat.reduceAdd]
                          refine wM_val ?ukb19 rfl rfl Ext.refl (fun w' hD => ?hkb19) (fun phkb19 => ?nkb19)
                          case hkb19 =>
                            obtain ⟨⟨d0, d1, d2, d3, d4⟩, d5⟩ := FS.out w' hD.1
                            go_simp; rfl
                          simp only [Act.put, List.setIfInBounds_toArray, List.set_cons_succ, List.set_cons_zero, Nat.reduceAdd]
                          refine wM_val ?ukb20 rfl rfl Ext.refl (fun w' hD => ?hkb20) (fun phkb20 => ?nkb20)
                          case hkb20 =>
                            obtain ⟨⟨d0, d1, d2, d3, d4⟩, d5⟩ := FS.out w' hD.1
                            go_simp; rfl
                          simp only [Act.put, List.setIfInBounds_toArray, List.set_cons_succ, List.set_cons_zero, Nat.reduceAdd]
                          refine wM_val ?ukb21 rfl rfl Ext.refl (fun w' hD => ?hkb21) (fun phkb21 => ?nkb21)
                          case hkb21 =>
                            obtain ⟨⟨d0, d1, d2, d3, d4⟩, d5⟩ := FS.out w' hD.1
                            go_simp; rfl
                          simp only [Act.put, List.setIfInBounds_toArray, List.set_cons_succ, List.set_cons_zero, Nat.reduceAdd]
                          refine wM_skip rfl ?_
                          simp only [Act.put, List.setIfInBounds_toArray, List.set_cons_succ, List.set_cons_zero, Nat.reduceAdd]
                          refine wM_skip rfl ?_
                          simp only [Act.put, List.setIfInBounds_toArray, List.set_cons_succ, List.set_cons_zero, Nat.reduceAdd]
                          refine wM_skip rfl ?_
                          simp only [Act.put, List.setIfInBounds_toArray, List.set_cons_succ, List.set_cons_zero, Nat.reduceAdd]
                          refine wM_skip rfl ?_
                          simp only [Act.put, List.setIfInBounds_toArray, List.set_cons_succ, List.set_cons_zero, Nat.reduceAdd]
                          refine wM_skip rfl ?_
                          simp only [Act.put, List.setIfInBounds_toArray, List.set_cons_succ, List.set_cons_zero, Nat.reduceAdd]
                          refine wM_skip rfl ?_
                          simp only [Act.put, List.setIfInBounds_toArray, List.set_cons_succ, List.set_cons_zero, Nat.reduceAdd]
                          refine wM_skip rfl ?_
                          simp only [Act.put, List.setIfInBounds_toArray, List.set_cons_succ, List.set_cons_zero, Nat.reduceAdd]
                          refine wM_skip rfl ?_
                          simp only [Act.put, List.setIfInBounds_toArray, List.set_cons_succ, List.set_cons_zero, Nat.reduceAdd]
                          refine wM_skip rfl ?_
                          simp only [Act.put, List.setIfInBounds_toArray, List.set_cons_succ, List.set_cons_zero, Nat.reduceAdd]
                          refine wM_val ?ukb31 rfl rfl Ext.refl (fun w' hD => ?hkb31) (fun phkb31 => ?nkb31)
                          case hkb31 =>
                            obtain ⟨⟨d0, d1, d2, d3, d4⟩, d5⟩ := FS.out w' hD.1
                            go_simp; rfl
                          simp only [Act.put, List.setIfInBounds_toArray, List.set_cons_succ, List.set_cons_zero, Nat.reduceAdd]
                          refine wM_val ?ukb32 rfl rfl Ext.refl (fun w' hD => ?hkb32) (fun phkb32 => ?nkb32)
                          case hkb32 =>
                            obtain ⟨⟨d0, d1, d2, d3, d4⟩, d5⟩ := FS.out w' hD.1
                            go_simp; rfl
                          simp only [Act.put, List.setIfInBounds_toArray, List.set_cons_succ, List.set_cons_zero, Nat.reduceAdd]
                          refine wM_val ?ukb33 rfl rfl Ext.refl (fun w' hD => ?hkb33) (fun phkb33 => ?nkb33)
                          case hkb33 =>
                            obtain ⟨⟨d0, d1, d2, d3, d4⟩, d5⟩ := FS.out w' hD.1
                            go_simp; rfl
                          simp only [Act.put, List.setIfInBounds_toArray, List.set_cons_succ, List.set_cons_zero, Nat.reduceAdd]
                          refine wM_val ?ukb34 rfl rfl Ext.refl (fun w' hD => ?hkb34) (fun phkb34 => ?nkb34)
                          case hkb34 =>
                            obtain ⟨⟨d0, d1, d2, d3, d4⟩, d5⟩ := FS.out w' hD.1
                            go_simp; rfl
                          simp only [Act.put, List.setIfInBounds_toArray, List.set_cons_succ, List.set_cons_zero, Nat.reduceAdd]
                          refine wM_val ?ukb35 rfl rfl Ext.refl (fun w' hD => ?hkb35) (fun phkb35 => ?nkb35)
                          case hkb35 =>
                            obtain ⟨⟨d0, d1, d2, d3, d4⟩, d5⟩ := FS.out w' hD.1
                            go_simp; rfl
                          simp only [Act.put, List.setIfInBounds_toArray, List.set_cons_succ, List.set_cons_zero, Nat.reduceAdd]
                          refine wM_val ?ukb36 rfl rfl Ext.refl (fun w' hD => ?hkb36) (fun phkb36 => ?nkb36)
                          case hkb36 =>
                            obtain ⟨⟨d0, d1, d2, d3, d4⟩, d5⟩ := FS.out w' hD.1
                            go_simp; rfl
                          simp only [Act.put, List.setIfInBounds_toArray, List.set_cons_succ, List.set_cons_zero, Nat.reduceAdd]
                          refine wM_skip rfl ?_
                          simp only [Act.put, List.setIfInBounds_toArray, List.set_cons_succ, List.set_cons_zero, Nat.reduceAdd]
                          refine wM_skip rfl ?_
                          simp only [Act.put, List.setIfInBounds_toArray, List.set_cons_succ, List.set_cons_zero, Nat.reduceAdd]
                          refine wM_skip rfl ?_
                          simp only [Act.put, List.setIfInBounds_toArray, List.set_cons_succ, List.set_cons_zero, Nat.reduceAdd]
                          refine wM_skip rfl ?_
                          simp only [Act.put, List.setIfInBounds_toArray, List.set_cons_succ, List.set_cons_zero, Nat.reduceAdd]
                          refine wM_skip rfl ?_
                          simp only [Act.put, List.setIfInBounds_toArray, List.set_cons_succ, List.set_cons_zero, Nat.reduceAdd]
                          refine wM_skip rfl ?_
                          simp only [Act.put, List.setIfInBounds_toArray, List.set_cons_succ, List.set_cons_zero, Nat.reduceAdd]
                          refine wM_skip rfl ?_
                          simp only [Act.put, List.setIfInBounds_toArray, List.set_cons_succ, List.set_cons_zero, Nat.reduceAdd]
                          refine wM_skip rfl ?_
                          simp only [Act.put, List.setIfInBounds_toArray, List.set_cons_succ, List.set_cons_zero, Nat.reduceAdd]
                          refine wM_val ?ukb45 rfl rfl Ext.refl (fun w' hD => ?hkb45) (fun phkb45 => ?nkb45)
                          case hkb45 =>
                            obtain ⟨⟨d0, d1, d2, d3, d4⟩, d5⟩ := FS.out w' hD.1
                            go_simp; rfl
                          simp only [Act.put, List.setIfInBounds_toArray, List.set_cons_succ, List.set_cons_zero, Nat.reduceAdd]
                          refine wM_val ?ukb46 rfl rfl Ext.refl (fun w' hD => ?hkb46) (fun phkb46 => ?nkb46)
                          case hkb46 =>
                            obtain ⟨⟨d0, d1, d2, d3, d4⟩, d5⟩ := FS.out w' hD.1
                            go_simp; rfl
                          simp only [Act.put, List.setIfInBounds_toArray, List.set_cons_succ, List.set_cons_zero, Nat.reduceAdd]
                          refine wM_nil ?_
                          intro w9 hw9 hF9
                          clear hF9
                          have hxN := hxk.trans hw9
                          go_wp2
                          go_roundw
                          case rel => exact ⟨k' + 1 + 1, hk1, by go_num, hxN⟩
                          case measure => simp [intOf]; omega
                      · as_aux_lemma =>
                        · have bz : (z != y) = true := by simpa using hzy
                          have hbs : besideL f.tr z y = true := fits_near HOK.out H1.out.mem HFIT.out hz hy hzy
                          have HBS := hid hbs
                          have FS : Hid (∀ w', Ext wr w' → (w'.cell? ⟨F, 0, none⟩ = some (.int .i64 f.pl) ∧ w'.cell? ⟨F, 1, none⟩ = some (.int .i64 f.mi) ∧ w'.cell? ⟨F, 2, none⟩ = some (.slice s.a1 f.tr.length s.c1) ∧ w'.cell? ⟨F, 3, none⟩ = some (.slice s.a2 f.bl.length s.c2) ∧ w'.cell? ⟨F, 4, none⟩ = some (.slice (some ⟨g, 0, none⟩) 1 s.c3)) ∧ w'.cell? ⟨gw, k', none⟩ = some (.int .i64 z)) := fun w' h => ⟨FX4.out w' (h4m.trans h), h.cell v1⟩
                          have hq0 : Ext wr wr.drew := Ext.drew (Ext.refl _)
                          have KB : Hid (∀ w', Ext wr w' → Calls Tryz.prog 24 #[.agg #[.int .i64 f.pl, .int .i64 f.mi, .slice s.a1 f.tr.length s.c1, .slice s.a2 f.bl.length s.c2, .slice (some ⟨g, 0, none⟩) 1 s.c3], .int .i64 z, .int .i64 y] w' fun e w2 => e = .returned (.bool true) ∧ Ext w' w2) := fun w' h => by
                            have K := lbeside_any _ (oneC f st rs) z y w' (HGV.out w' (h4m.trans h)) (by have := HOK.out.tn; omega)
                            have e2 : besideL (oneC f st rs).tr z y = true := HBS.out
                            rw [e2] at K
                            exact K.mono fun e w2 ⟨e1, e3⟩ => ⟨e1, e3⟩
                          clear hy hz HWK hzy hbs v1
                          go_wp2
                          refine wp_region_shut Ext (fun w' => Ext wr w') (fun
                            | 29 => some (fun v w' => v = .bool true)
                            | _ => none) (by kernel_rfl) (by kernel_rfl) (fun _ _ h k => h.trans k) ?hTkc (Ext.drew (Ext.refl wr)) ?_
                          case hTkc =>
                            intro i R hR
                            match i, hR with
                            | 29, hR => cases hR; exact fun _ _ _ h _ => h
                          refine wM_val ?ukc0 rfl rfl Ext.refl (fun w' hD => ?hkc0) (fun phkc0 => ?nkc0)
                          case hkc0 =>
                            obtain ⟨⟨d0, d1, d2, d3, d4⟩, d5⟩ := FS.out w' hD.1
                            go_simp; rfl
                          simp only [Act.put, List.setIfInBounds_toArray, List.set_cons_succ, List.set_cons_zero, Nat.reduceAdd]
                          refine wM_val ?ukc1 rfl rfl Ext.refl (fun w' hD => ?hkc1) (fun phkc1 => ?nkc1)
                          case hkc1 =>
                            obtain ⟨⟨d0, d1, d2, d3, d4⟩, d5⟩ := FS.out w' hD.1
                            go_simp; rfl
                          simp only [Act.put, List.setIfInBounds_toArray, List.set_cons_succ, List.set_cons_zero, Nat.reduceAdd]
                          refine wM_val ?ukc2 rfl rfl Ext.refl (fun w' hD => ?hkc2) (fun phkc2 => ?nkc2)
                          case hkc2 =>
                            obtain ⟨⟨d0, d1, d2, d3, d4⟩, d5⟩ := FS.out w' hD.1
                            go_simp; rfl
                          simp only [Act.put, List.setIfInBounds_toArray, List.set_cons_succ, List.set_cons_zero, Nat.reduceAdd]
                          refine wM_val ?ukc3 rfl rfl Ext.refl (fun w' hD => ?hkc3) (fun phkc3 => ?nkc3)
                          case hkc3 =>
                            obtain ⟨⟨d0, d1, d2, d3, d4⟩, d5⟩ := FS.out w' hD.1
                            go_simp; rfl
                          simp only [Act.put, List.setIfInBounds_toArray, List.set_cons_succ, List.set_cons_zero, Nat.reduceAdd]
                          refine wM_val ?ukc4 rfl rfl Ext.refl (fun w' hD => ?hkc4) (fun phkc4 => ?nkc4)
                          case hkc4 =>
                            obtain ⟨⟨d0, d1, d2, d3, d4⟩, d5⟩ := FS.out w' hD.1
                            go_simp; rfl
                          simp only [Act.put, List.setIfInBounds_toArray, List.set_cons_succ, List.set_cons_zero, Nat.reduceAdd]
                          refine wM_val ?ukc5 rfl rfl Ext.refl (fun w' hD => ?hkc5) (fun phkc5 => ?nkc5)
                          case hkc5 =>
                            obtain ⟨⟨d0, d1, d2, d3, d4⟩, d5⟩ := FS.out w' hD.1
                            go_simp; rfl
                          simp only [Act.put, List.setIfInBounds_toArray, List.set_cons_succ, List.set_cons_zero, Nat.reduceAdd]
                          refine wM_val ?ukc6 rfl rfl Ext.refl (fun w' hD => ?hkc6) (fun phkc6 => ?nkc6)
                          case hkc6 =>
                            obtain ⟨⟨d0, d1, d2, d3, d4⟩, d5⟩ := FS.out w' hD.1
                            go_simp; rfl
                          simp only [Act.put, List.setIfInBounds_toArray, List.set_cons_succ, List.set_cons_zero, Nat.reduceAdd]
                          refine wM_val ?ukc7 rfl rfl Ext.refl (fun w' hD => ?hkc7) (fun phkc7 => ?nkc7)
                          case hkc7 =>
                            obtain ⟨⟨d0, d1, d2, d3, d4⟩, d5⟩ := FS.out w' hD.1
                            go_simp; rfl
                          simp only [Act.put, List.setIfInBounds_toArray, List.set_cons_succ, List.set_cons_zero, Nat.reduceAdd]
                          refine wM_val ?ukc8 rfl rfl Ext.refl (fun w' hD => ?hkc8) (fun phkc8 => ?nkc8)
                          case hkc8 =>
                            obtain ⟨⟨d0, d1, d2, d3, d4⟩, d5⟩ := FS.out w' hD.1
                            go_simp; rfl
                          simp only [Act.put, List.setIfInBounds_toArray, List.set_cons_succ, List.set_cons_zero, Nat.reduceAdd]
                          refine wM_val ?ukc9 rfl rfl Ext.refl (fun w' hD => ?hkc9) (fun phkc9 => ?nkc9)
                          case hkc9 =>
                            obtain ⟨⟨d0, d1, d2, d3, d4⟩, d5⟩ := FS.out w' hD.1
                            go_simp; rfl
                          simp only [Act.put, List.setIfInBounds_toArray, List.set_cons_succ, List.set_cons_zero, Nat.reduceAdd]
                          refine wM_val ?ukc10 rfl rfl Ext.refl (fun w' hD => ?hkc10) (fun phkc10 => ?nkc10)
                          case hkc10 =>
                            obtain ⟨⟨d0, d1, d2, d3, d4⟩, d5⟩ := FS.out w' hD.1
                            go_simp; rfl
                          simp only [Act.put, List.setIfInBounds_toArray, List.set_cons_succ, List.set_cons_zero, Nat.reduceAdd]
                          refine wM_val ?ukc11 rfl rfl Ext.refl (fun w' hD => ?hkc11) (fun phkc11 => ?nkc11)
                          case hkc11 =>
                            obtain ⟨⟨d0, d1, d2, d3, d4⟩, d5⟩ := FS.out w' hD.1
                            go_simp; rfl
                          simp only [Act.put, List.setIfInBounds_toArray, List.set_cons_succ, List.set_cons_zero, Nat.reduceAdd]
                          refine wM_val ?ukc12 rfl rfl Ext.refl (fun w' hD => ?hkc12) (fun phkc12 => ?nkc12)
                          case hkc12 =>
                            obtain ⟨⟨d0, d1, d2, d3, d4⟩, d5⟩ := FS.out w' hD.1
                            go_simp; rfl
                          simp only [Act.put, List.setIfInBounds_toArray, List.set_cons_succ, List.set_cons_zero, Nat.reduceAdd]
                          refine wM_val ?ukc13 rfl rfl Ext.refl (fun w' hD => ?hkc13) (fun phkc13 => ?nkc13)
                          case hkc13 =>
                            obtain ⟨⟨d0, d1, d2, d3, d4⟩, d5⟩ := FS.out w' hD.1
                            go_simp; rfl
                          simp only [Act.put, List.setIfInBounds_toArray, List.set_cons_succ, List.set_cons_zero, Nat.reduceAdd]
                          refine wM_val ?ukc14 rfl rfl Ext.refl (fun w' hD => ?hkc14) (fun phkc14 => ?nkc14)
                          case hkc14 =>
                            obtain ⟨⟨d0, d1, d2, d3, d4⟩, d5⟩ := FS.out w' hD.1
                            go_simp; rfl
                          simp only [Act.put, List.setIfInBounds_toArray, List.set_cons_succ, List.set_cons_zero, Nat.reduceAdd]
                          refine wM_val ?ukc15 rfl rfl Ext.refl (fun w' hD => ?hkc15) (fun phkc15 => ?nkc15)
                          case hkc15 =>
                            obtain ⟨⟨d0, d1, d2, d3, d4⟩, d5⟩ := FS.out w' hD.1
                            go_simp; rfl
                          simp only [Act.put, List.setIfInBounds_toArray, List.set_cons_succ, List.set_cons_zero, Nat.reduceAdd]
                          refine wM_val ?ukc16 rfl rfl Ext.refl (fun w' hD => ?hkc16) (fun phkc16 => ?nkc16)
                          case hkc16 =>
                            obtain ⟨⟨d0, d1, d2, d3, d4⟩, d5⟩ := FS.out w' hD.1
                            go_simp; rfl
                          simp only [Act.put, List.setIfInBounds_toArray, List.set_cons_succ, List.set_cons_zero, Nat.reduceAdd]
                          refine wM_val ?ukc17 rfl rfl Ext.refl (fun w' hD => ?hkc17) (fun phkc17 => ?nkc17)
                          case hkc17 =>
                            obtain ⟨⟨d0, d1, d2, d3, d4⟩, d5⟩ := FS.out w' hD.1
                            go_simp; rfl
                          simp only [Act.put, List.setIfInBounds_toArray, List.set_cons_succ, List.set_cons_zero, Nat.reduceAdd]
                          refine wM_val ?ukc18 rfl rfl Ext.refl (fun w' hD => ?hkc18) (fun phkc18 => ?nkc18)
                          case hkc18 =>
                            obtain ⟨⟨d0, d1, d2, d3, d4⟩, d5⟩ := FS.out w' hD.1
                            go_simp; rfl
                          simp only [Act.put, List.setIfInBounds_toArray, List.set_cons_succ, List.set_cons_zero, Nat.reduceAdd]
                          refine wM_val ?ukc19 rfl rfl Ext.refl (fun w' hD => ?hkc19) (fun phkc19 => ?nkc19)
                          case hkc19 =>
                            obtain ⟨⟨d0, d1, d2, d3, d4⟩, d5⟩ := FS.out w' hD.1
                            go_simp; rfl
                          simp only [Act.put, List.setIfInBounds_toArray, List.set_cons_succ, List.set_cons_zero, Nat.reduceAdd]
                          refine wM_val ?ukc20 rfl rfl Ext.refl (fun w' hD => ?hkc20) (fun phkc20 => ?nkc20)
                          case hkc20 =>
                            obtain ⟨⟨d0, d1, d2, d3, d4⟩, d5⟩ := FS.out w' hD.1
                            go_simp; rfl
                          simp only [Act.put, List.setIfInBounds_toArray, List.set_cons_succ, List.set_cons_zero, Nat.reduceAdd]
                          refine wM_val ?ukc21 rfl rfl Ext.refl (fun w' hD => ?hkc21) (fun phkc21 => ?nkc21)
                          case hkc21 =>
                            obtain ⟨⟨d0, d1, d2, d3, d4⟩, d5⟩ := FS.out w' hD.1
                            go_simp; rfl
                          simp only [Act.put, List.setIfInBounds_toArray, List.set_cons_succ, List.set_cons_zero, Nat.reduceAdd]
                          refine wM_val ?ukc22 rfl rfl Ext.refl (fun w' hD => ?hkc22) (fun phkc22 => ?nkc22)
                          case hkc22 =>
                            obtain ⟨⟨d0, d1, d2, d3, d4⟩, d5⟩ := FS.out w' hD.1
                            go_simp; rfl
                          simp only [Act.put, List.setIfInBounds_toArray, List.set_cons_succ, List.set_cons_zero, Nat.reduceAdd]
                          refine wM_val ?ukc23 rfl rfl Ext.refl (fun w' hD => ?hkc23) (fun phkc23 => ?nkc23)
                          case hkc23 =>
                            obtain ⟨⟨d0, d1, d2, d3, d4⟩, d5⟩ := FS.out w' hD.1
                            go_simp; rfl
                          simp only [Act.put, List.setIfInBounds_toArray, List.set_cons_succ, List.set_cons_zero, Nat.reduceAdd]
                          refine wM_val ?ukc24 rfl rfl Ext.refl (fun w' hD => ?hkc24) (fun phkc24 => ?nkc24)
                          case hkc24 =>
                            obtain ⟨⟨d0, d1, d2, d3, d4⟩, d5⟩ := FS.out w' hD.1
                            go_simp; rfl
                          simp only [Act.put, List.setIfInBounds_toArray, List.set_cons_succ, List.set_cons_zero, Nat.reduceAdd]
                          refine wM_val ?ukc25 rfl rfl Ext.refl (fun w' hD => ?hkc25) (fun phkc25 => ?nkc25)
                          case hkc25 =>
                            obtain ⟨⟨d0, d1, d2, d3, d4⟩, d5⟩ := FS.out w' hD.1
                            go_simp; rfl
                          simp only [Act.put, List.setIfInBounds_toArray, List.set_cons_succ, List.set_cons_zero, Nat.reduceAdd]
                          refine wM_val ?ukc26 rfl rfl Ext.refl (fun w' hD => ?hkc26) (fun phkc26 => ?nkc26)
                          case hkc26 =>
                            obtain ⟨⟨d0, d1, d2, d3, d4⟩, d5⟩ := FS.out w' hD.1
                            go_simp; rfl
                          simp only [Act.put, List.setIfInBounds_toArray, List.set_cons_succ, List.set_cons_zero, Nat.reduceAdd]
                          refine wM_val ?ukc27 rfl rfl Ext.refl (fun w' hD => ?hkc27) (fun phkc27 => ?nkc27)
                          case hkc27 =>
                            obtain ⟨⟨d0, d1, d2, d3, d4⟩, d5⟩ := FS.out w' hD.1
                            go_simp; rfl
                          simp only [Act.put, List.setIfInBounds_toArray, List.set_cons_succ, List.set_cons_zero, Nat.reduceAdd]
                          refine wM_val ?ukc28 rfl rfl Ext.refl (fun w' hD => ?hkc28) (fun phkc28 => ?nkc28)
                          case hkc28 =>
                            obtain ⟨⟨d0, d1, d2, d3, d4⟩, d5⟩ := FS.out w' hD.1
                            go_simp; rfl
                          simp only [Act.put, List.setIfInBounds_toArray, List.set_cons_succ, List.set_cons_zero, Nat.reduceAdd]
                          refine wM_op _ rfl rfl (opens_call ?fkc29 ?gkc29 (fun w' hD => ?hkc29) (fun w' hD => ?ckc29)) (fun v29 hv29 => ?nkc29)
                          case hkc29 => go_simp; constructor <;> rfl
                          case ckc29 =>
                            refine (KB.out w' hD.1).mono ?_
                            rintro e w2 ⟨rfl, hb⟩
                            exact ⟨_, rfl, hb, rfl⟩
                          obtain ⟨_, -, -, rfl⟩ := hv29
                          simp only [Act.put, List.setIfInBounds_toArray, List.set_cons_succ, List.set_cons_zero, Nat.reduceAdd]
                          refine wM_val ?ukc30 rfl rfl Ext.refl (fun w' hD => ?hkc30) (fun phkc30 => ?nkc30)
                          case hkc30 =>
                            obtain ⟨⟨d0, d1, d2, d3, d4⟩, d5⟩ := FS.out w' hD.1
                            go_simp; rfl
                          simp only [Act.put, List.setIfInBounds_toArray, List.set_cons_succ, List.set_cons_zero, Nat.reduceAdd]
                          refine wM_val ?ukc31 rfl rfl Ext.refl (fun w' hD => ?hkc31) (fun phkc31 => ?nkc31)
                          case hkc31 =>
                            obtain ⟨⟨d0, d1, d2, d3, d4⟩, d5⟩ := FS.out w' hD.1
                            go_simp; rfl
                          simp only [Act.put, List.setIfInBounds_toArray, List.set_cons_succ, List.set_cons_zero, Nat.reduceAdd]
                          refine wM_val ?ukc32 rfl rfl Ext.refl (fun w' hD => ?hkc32) (fun phkc32 => ?nkc32)
                          case hkc32 =>
                            obtain ⟨⟨d0, d1, d2, d3, d4⟩, d5⟩ := FS.out w' hD.1
                            go_simp; rfl
                          simp only [Act.put, List.setIfInBounds_toArray, List.set_cons_succ, List.set_cons_zero, Nat.reduceAdd]
                          refine wM_val ?ukc33 rfl rfl Ext.refl (fun w' hD => ?hkc33) (fun phkc33 => ?nkc33)
                          case hkc33 =>
                            obtain ⟨⟨d0, d1, d2, d3, d4⟩, d5⟩ := FS.out w' hD.1
                            go_simp; rfl
                          simp only [Act.put, List.setIfInBounds_toArray, List.set_cons_succ, List.set_cons_zero, Nat.reduceAdd]
                          refine wM_val ?ukc34 rfl rfl Ext.refl (fun w' hD => ?hkc34) (fun phkc34 => ?nkc34)
                          case hkc34 =>
                            obtain ⟨⟨d0, d1, d2, d3, d4⟩, d5⟩ := FS.out w' hD.1
                            go_simp; rfl
                          simp only [Act.put, List.setIfInBounds_toArray, List.set_cons_succ, List.set_cons_zero, Nat.reduceAdd]
                          refine wM_val ?ukc35 rfl rfl Ext.refl (fun w' hD => ?hkc35) (fun phkc35 => ?nkc35)
                          case hkc35 =>
                            obtain ⟨⟨d0, d1, d2, d3, d4⟩, d5⟩ := FS.out w' hD.1
                            go_simp; rfl
                          simp only [Act.put, List.setIfInBounds_toArray, List.set_cons_succ, List.set_cons_zero, Nat.reduceAdd]
                          refine wM_val ?ukc36 rfl rfl Ext.refl (fun w' hD => ?hkc36) (fun phkc36 => ?nkc36)
                          case hkc36 =>
                            obtain ⟨⟨d0, d1, d2, d3, d4⟩, d5⟩ := FS.out w' hD.1
                            go_simp; rfl
                          simp only [Act.put, List.setIfInBounds_toArray, List.set_cons_succ, List.set_cons_zero, Nat.reduceAdd]
                          refine wM_skip rfl ?_
                          simp only [Act.put, List.setIfInBounds_toArray, List.set_cons_succ, List.set_cons_zero, Nat.reduceAdd]
                          refine wM_skip rfl ?_
                          simp only [Act.put, List.setIfInBounds_toArray, List.set_cons_succ, List.set_cons_zero, Nat.reduceAdd]
                          refine wM_skip rfl ?_
                          simp only [Act.put, List.setIfInBounds_toArray, List.set_cons_succ, List.set_cons_zero, Nat.reduceAdd]
                          refine wM_skip rfl ?_
                          simp only [Act.put, List.setIfInBounds_toArray, List.set_cons_succ, List.set_cons_zero, Nat.reduceAdd]
                          refine wM_skip rfl ?_
                          simp only [Act.put, List.setIfInBounds_toArray, List.set_cons_succ, List.set_cons_zero, Nat.reduceAdd]
                          refine wM_skip rfl ?_
                          simp only [Act.put, List.setIfInBounds_toArray, List.set_cons_succ, List.set_cons_zero, Nat.reduceAdd]
                          refine wM_skip rfl ?_
                          simp only [Act.put, List.setIfInBounds_toArray, List.set_cons_succ, List.set_cons_zero, Nat.reduceAdd]
                          refine wM_skip rfl ?_
                          simp only [Act.put, List.setIfInBounds_toArray, List.set_cons_succ, List.set_cons_zero, Nat.reduceAdd]
                          refine wM_val ?ukc45 rfl rfl Ext.refl (fun w' hD => ?hkc45) (fun phkc45 => ?nkc45)
                          case hkc45 =>
                            obtain ⟨⟨d0, d1, d2, d3, d4⟩, d5⟩ := FS.out w' hD.1
                            go_simp; rfl
                          simp only [Act.put, List.setIfInBounds_toArray, List.set_cons_succ, List.set_cons_zero, Nat.reduceAdd]
                          refine wM_val ?ukc46 rfl rfl Ext.refl (fun w' hD => ?hkc46) (fun phkc46 => ?nkc46)
                          case hkc46 =>
                            obtain ⟨⟨d0, d1, d2, d3, d4⟩, d5⟩ := FS.out w' hD.1
                            go_simp; rfl
                          simp only [Act.put, List.setIfInBounds_toArray, List.set_cons_succ, List.set_cons_zero, Nat.reduceAdd]
                          refine wM_nil ?_
                          intro w9 hw9 hF9
                          clear hF9
                          have hxN := hxk.trans hw9
                          go_wp2
                          go_roundw
                          case rel => exact ⟨k' + 1 + 1, hk1, by go_num, hxN⟩
                          case measure => simp [intOf]; omega
                  · as_aux_lemma =>
                    · have hwl : WlOK (oneC f st rs) l := ⟨by rw [HLM.out, ← HMN.out]; rfl, HPL.out⟩
                      have K29 := lfits_any _ (oneC f st rs) 0 ⟨st, rs⟩ (some ⟨gw, 0, none⟩) qw l wr (HGV.out wr h4m) HOK.out rfl (Rd.of_own (own_below HOX.out hxk)) hwl
                      rw [(fits_pl HFIT.out).2.2.2] at K29
                      have K29 := hid K29
                      obtain ⟨c0, c1, c2, c3, c4⟩ := FX4.out wr h4m
                      go_wp2_with fail
                      clear c0 c1 c2 c3 c4
                      refine K29.out.mono ?_
                      clear K29
                      rintro e w13 ⟨rfl, h13⟩
                      have hxN := h912.trans (hxk.trans h13)
                      go_wp2
                      go_roundw
                      case rel => exact ⟨i + 1, hi1, by go_num, hxN⟩
                      case measure => simp [intOf]; omega
            · have hxN := hx9.trans hxi
              have HCN := hid (HC9.out.ext hxi)
              go_wp2
              go_roundw
              case rel => exact ⟨j + 1, hj1, by go_num, hxN, HCN.out⟩
              case measure => simp [intOf]; omega
      · as_aux_lemma =>
        · obtain rfl : MN = j := by omega
          obtain ⟨w14, hw14⟩ : ∃ w14 : World, w14 = wr := ⟨_, rfl⟩
          subst hw14
          have HCS := hid hcs
          clear hcs
          go_wp2_with fail
          refine (HPQ.out w14 (HEX.out.trans h4r)).mono ?_
          clear HPQ
          rintro e w15 ⟨D2, rfl, hD2, h15, hh15⟩
          have H15 : Hid (∀ w', (Bel D2 w15 w' ∧ HeapR w' D2) → Ext w14 w') := fun w' h => h15.then_bel hD2 h.1
          have KW2 : Hid (∀ w', (Bel D2 w15 w' ∧ HeapR w' D2) → Calls Tryz.prog 17 #[.pointer (some ⟨D2, 0, none⟩), .agg #[.int .i64 f.pl, .int .i64 f.mi, .slice s.a1 f.tr.length s.c1, .slice s.a2 f.bl.length s.c2, .slice (some ⟨g, 0, none⟩) 1 s.c3], .int .i64 0] w' fun e w2 => ∃ l A q, e = .returned (.slice A l.length q) ∧ Bel D2 w' w2 ∧ HeapR w2 D2 ∧ RealW (oneC f st rs) ⟨st, rs⟩ l ∧ w2.ownsRow 0 3 1 (.slice A l.length q) l.length (l.map (.int .i64))) := fun w' h => by
            refine (walked_any D2 _ (oneC f st rs) 0 ⟨st, rs⟩ w' h.2 (HGO.out w' (h4r.trans (H15.out w' h))) HOK.out rfl).mono ?_
            rintro e w2 ⟨l, A, q, B, rfl, hb, hh, hr, hB, ho⟩
            exact ⟨l, A, q, rfl, hb, hh, hr, own_lower ho (Nat.zero_le _)⟩
          have HH15 := hid hh15
          clear hh15 h15 hD2
          go_wp2
          go_loopw [214] (fun i214 wr => ∃ k : Nat, k ≤ 8 ∧ i214 = .int .i64 (k : Int) ∧ Bel D2 w15 wr ∧ HeapR wr D2) (fun i _ => 8 - (intOf i).toNat)
          case atStart => exact ⟨0, by omega, rfl, Bel.refl _ _, HH15.out⟩
          case round =>
            obtain ⟨k, hk, rfl, hbk, hhk⟩ := hrel
            have h4k := h4r.trans (H15.out wr ⟨hbk, hhk⟩)
            by_cases hk8 : k < 8
            · as_aux_lemma =>
              · have hk8I : (k : Int) < 8 := by omega
                have hk1 : k + 1 ≤ 8 := hk8
                obtain ⟨c0, c1, c2, c3, c4⟩ := FX4.out wr h4k
                go_wp2_with fail
                clear c0 c1 c2 c3 c4
                refine (KW2.out wr ⟨hbk, hhk⟩).mono ?_
                rintro e wa ⟨l, A, q, rfl, hb, hh, hr, ho⟩
                have hba := hbk.trans hb
                have h4a := h4r.trans (H15.out wa ⟨hba, hh⟩)
                have hlm : l.length = MN := by have e := hr.len; have e2 : (oneC f st rs).mi = f.mi := rfl; rw [e2] at e; rw [e, HMN.out]
                obtain ⟨x0, hx0⟩ := get_of_lt l 0 (by have := HMN.out; omega)
                obtain ⟨b3, o3, e3, -⟩ := Ints.at_ (Rd.of_own ho) hx0
                subst e3
                obtain ⟨BF, hBF⟩ : ∃ BF, fitsM (farM (oneC f st rs)) (oneC f st rs) ⟨st, rs⟩ l = BF := ⟨_, rfl⟩
                have hfv : fitsV (oneC f st rs) 0 l = BF := by unfold fitsV; rw [HQ.out.cnt.1, HQ.out.ct, hBF]; rfl
                have P37 := fitsx_any _ (oneC f st rs) 0 (some ⟨b3, o3, none⟩) q l wa (HGV.out wa h4a) HSZ.out (Rd.of_own ho) (by omega) (own_cap ho)
                rw [hfv, HQ.out.cnt.1] at P37
                have P37 := hid P37
                have P38 : Hid (∀ w', Ext wa w' → Calls Tryz.prog 25 #[.agg #[.int .i64 f.pl, .int .i64 f.mi, .slice s.a1 f.tr.length s.c1, .slice s.a2 f.bl.length s.c2, .slice (some ⟨g, 0, none⟩) 1 s.c3], .int .i64 0, .slice (some ⟨b3, o3, none⟩) l.length q] w' fun e w2 => e = .returned (.bool BF) ∧ Ext w' w2) := fun w' h => by
                  have K := lfits_any _ (oneC f st rs) 0 ⟨st, rs⟩ (some ⟨b3, o3, none⟩) q l w' (HGV.out w' (h4a.trans h)) HOK.out rfl (Rd.of_own (own_below ho h)) hr.wl
                  rw [← real_iff HOK.out hr, hBF] at K
                  exact K
                have bBF : (BF != BF) = false := by simp
                have HBF := hid hBF
                have HOA := hid ho
                have HLM := hid hlm
                clear hfv hBF hx0 ho hr hlm
                obtain ⟨c0, c1, c2, c3, c4⟩ := FX4.out wa h4a
                go_wp2_with fail
                clear c0 c1 c2 c3 c4
                refine P37.out.mono ?_
                clear P37
                rintro e wb ⟨rfl, hxb⟩
                obtain ⟨c0, c1, c2, c3, c4⟩ := FX4.out wb (h4a.trans hxb)
                go_wp2_with fail
                clear c0 c1 c2 c3 c4
                refine (P38.out wb hxb).mono ?_
                clear P38
                rintro e wd ⟨rfl, hxd'⟩
                have hxd := hxb.trans hxd'
                clear hxb hxd'
                go_wp2
                go_loopw [236] (fun i236 wr => ∃ m : Nat, m ≤ l.length ∧ i236 = .int .i64 (m : Int) ∧ Ext wa wr) (fun i _ => l.length - (intOf i).toNat)
                case atStart => exact ⟨0, Nat.zero_le _, rfl, hxd⟩
                case round =>
                  obtain ⟨m, hm, rfl, hxm⟩ := hrel
                  by_cases hml : m < l.length
                  · have hmlI : (m : Int) < (l.length : Int) := by omega
                    have hm1 : m + 1 ≤ l.length := hml
                    obtain ⟨y, hy⟩ := get_of_lt l m hml
                    have hv : wr.cell? ⟨b3, o3 + m, none⟩ = some (.int .i64 y) := by
                      obtain ⟨b1, o1, e1, k1⟩ := Ints.at_ (Rd.of_own (own_below HOA.out hxm) : Ints wr _ l) hy
                      cases e1
                      exact k1
                    have hmM : m < MN := by have := HLM.out; omega
                    have hmMI : (m : Int) < (MN : Int) := by omega
                    obtain ⟨Ac, kc, q1, q2, -⟩ := (HCS.out.ext ((H15.out wa ⟨hba, hh⟩).trans hxm)).at_ hmM hmM
                    cases BF
                    case false =>
                      clear hy
                      go_wp2
                      go_roundw
                      case rel => exact ⟨m + 1, hm1, by go_num, hxm⟩
                      case measure => simp [intOf]; omega
                    case true =>
                      have hc := HQ.out.fits l HBF.out m (by have := HMN.out; omega)
                      rw [List.getD_eq_getElem?_getD, hy] at hc
                      have hc' : memI y (CL m) = true := hc
                      have K := containsI_any y Ac kc (CL m) wr q2 (by have := HQ.out.len m; omega)
                      rw [hc'] at K
                      have HK := hid K
                      clear hy hc hc' K q2
                      go_wp2_with fail
                      refine HK.out.mono ?_
                      clear HK
                      rintro e wf ⟨rfl, rfl⟩
                      go_wp2
                      go_roundw
                      case rel => exact ⟨m + 1, hm1, by go_num, hxm⟩
                      case measure => simp [intOf]; omega
                  · have hbN := hba.trans hxm.bel
                    have hhN := hh.ext hxm
                    have HHN := hid hhN
                    have HBN := hid hbN
                    clear hhN hbN
                    go_wp2
                    go_roundw
                    case rel => exact ⟨k + 1, hk1, by go_num, HBN.out, HHN.out⟩
                    case measure => simp [intOf]; omega
            · obtain ⟨wE, hwE⟩ : ∃ wE : World, wE = wr := ⟨_, rfl⟩
              subst hwE
              have HCE := hid (HCS.out.ext (H15.out wE ⟨hbk, hhk⟩))
              clear hbk hhk HCS KW2 H15 HH15
              obtain ⟨I, hI, hI2⟩ := fou_mod (n := (MN : Int)) (by have := HMN.out; omega) htu.1
              obtain ⟨Y, hY, hY2⟩ := fou_mod (n := 8) (by decide) htv.1
              have hY7 : Y ≤ 7 := by omega
              have hIM : I < MN := by omega
              obtain ⟨E, d, t, hDec⟩ := fou_dec H1.out HQ.out (I := I) (Y := Y) (by have := HMN.out; omega) hY7
              obtain ⟨LX, hLX⟩ : ∃ LX, CL I = LX := ⟨_, rfl⟩
              have hmem := HQ.out.mem I (by have := HMN.out; omega)
              have hlen := HQ.out.len I
              rw [hLX] at hDec hmem hlen
              obtain ⟨Ac, kc, q1, q2, q3⟩ := HCE.out.at_ hIM hIM
              rw [hLX] at q1 q2 q3
              have P48 := decidex_any _ (oneC f st rs) 0 (I : Int) (Y : Int) wE (HGV.out wE h4k) HSZ.out
              have P49 := hid (fun w' (h : Ext w4 w') => twins_any _ (oneC f st rs) 0 (I : Int) (Y : Int) w' (HGV.out w' h) HSZ.out)
              unfold DecidePost at P48
              rw [hDec.de.1, hDec.de.2] at P48
              rw [hDec.tw, hDec.pl0] at P49
              have P48 := hid P48
              have hnz : ¬ (MN : Int) = 0 := by have := HMN.out; omega
              have HDE := hid hDec
              have HME := hid hmem
              have HQ2 := hid q2
              have HCI : Hid (∀ w', Ext wE w' → w'.cell? ⟨Bc, I, none⟩ = some (.slice Ac LX.length kc)) := fun w' h => h.cell q1
              have hIMI : (I : Int) < (MN : Int) := hI2
              have hk8' : ¬ (k : Int) < 8 := by omega
              clear hDec hmem hLX q1 q2
              obtain ⟨c0, c1, c2, c3, c4⟩ := FX4.out wE h4k
              go_wp2_with fail
              clear c0 c1 c2 c3 c4
              refine P48.out.mono ?_
              clear P48
              rintro e w16 ⟨r, rfl, h16, Ad, kd, rfl, hId⟩
              have h416 := h4k.trans h16
              obtain ⟨c0, c1, c2, c3, c4⟩ := FX4.out w16 h416
              go_wp2_with fail
              clear c0 c1 c2 c3 c4
              refine (P49.out w16 h416).mono ?_
              clear P49
              rintro e w17 ⟨r, rfl, h17, At, kt, rfl, hPt⟩
              obtain ⟨TL, hTL⟩ : ∃ TL, t.length = TL := ⟨_, rfl⟩
              rw [hTL]
              have HTL := hid hTL
              have h417 := h416.trans h17
              have HX17 := hid (h16.trans h17)
              have HId := hid (hId.ext h17)
              have HPt := hid hPt
              have he06 := HDE.out.e06
              rw [hTL] at he06
              have HE6 := hid he06
              clear hId hPt h16 h17 h416 hTL he06
              go_upto_region 50 with fail
              go_cut [292] (fun s292 wx => s292 = .bool false ∧ w17 = wx)
              case first =>
                rcases HE6.out with ⟨e1, e2⟩ | ⟨e1, e2⟩
                · subst e1
                  subst e2
                  go_wp2_with fail
                  go_meet
                  exact ⟨rfl, (by first | rfl | trivial)⟩
                · have e3 : (0 : Int) < (TL : Int) := by omega
                  have e4 : ¬ TL = 0 := by omega
                  subst e1
                  go_wp2_with fail
                  go_meet
                  exact ⟨rfl, (by first | rfl | trivial)⟩
              case rest =>
                obtain ⟨rfl, hcw⟩ := hcut
                subst hcw
                have hci := HCI.out w17 HX17.out
                obtain ⟨PN, hPN⟩ : ∃ PN, f.pl.toNat = PN := ⟨_, rfl⟩
                have hPNI : f.pl = ((PN : Nat) : Int) := by omega
                have HPN := hid hPN
                have HPNI := hid hPNI
                clear hPN hPNI
                go_wp2
                go_loopw [298] (fun i298 wr => ∃ i : Nat, i ≤ LX.length ∧ i298 = .int .i64 (i : Int) ∧ Ext w17 wr) (fun i _ => LX.length - (intOf i).toNat)
                case atStart => exact ⟨0, Nat.zero_le _, rfl, Ext.refl _⟩
                case round =>
                  obtain ⟨i, hi, rfl, hxi⟩ := hrel
                  by_cases hiL : i < LX.length
                  · as_aux_lemma =>
                    · have hiLI : (i : Int) < (LX.length : Int) := by omega
                      have hi1 : i + 1 ≤ LX.length := hiL
                      obtain ⟨x, hx⟩ := get_of_lt LX i hiL
                      have hxb := HME.out x (mem_of_get hx)
                      obtain ⟨p, rfl⟩ : ∃ p : Nat, x = (p : Int) := ⟨x.toNat, by omega⟩
                      have hpN : p < PN := by have := HPN.out; omega
                      obtain ⟨bc, oc, e7, g7⟩ := Ints.at_ (HQ2.out.ext (HX17.out.trans hxi)) hx
                      have HXI := hid hx
                      have hci := HCI.out wr (HX17.out.trans hxi)
                      subst e7
                      have hi1I : (i : Int) + 1 ≤ (LX.length : Int) := by omega
                      have hikc : (i : Int) + 1 ≤ (kc : Int) := by omega
                      have hikc' : i + 1 ≤ kc := by omega
                      have hl8I : (LX.length : Int) ≤ 8 := by omega
                      clear hx
                      go_upto_region 55 with fail
                      go_cut [309, 310, 311] (fun s309 s310 s311 wx => ∃ A' k', s309 = .slice A' (LX.length - (i + 1)) k' ∧ (i + 1 < LX.length → A' = some ⟨bc, oc + (i + 1), none⟩) ∧ s310 = .int .i64 ((LX.length - (i + 1) : Nat) : Int) ∧ s311 = .int .i64 0 ∧ wr = wx)
                      case first =>
                        by_cases hk1 : kc = i + 1
                        · have hk2 : kc - (i + 1) = 0 := by omega
                          go_wp2_with fail
                          go_meet
                          exact ⟨_, _, rfl, fun e => by omega, rfl, rfl, (by first | rfl | trivial)⟩
                        · have hk2 : ¬ kc - (i + 1) = 0 := by omega
                          have hk3 : ¬ kc = i + 1 := hk1
                          go_wp2_with fail
                          go_meet
                          exact ⟨_, _, rfl, fun e => (by first | rfl | trivial), rfl, rfl, (by first | rfl | trivial)⟩
                      case rest =>
                        obtain ⟨A', k', rfl, hA', rfl, rfl, hcw⟩ := hcut
                        subst hcw
                        have HA' := hid hA'
                        have HG7 := hid g7
                        clear hA' g7 hci
                        obtain ⟨NL, hNL⟩ : ∃ NL, LX.length - (i + 1) = NL := ⟨_, rfl⟩
                        rw [hNL]
                        obtain ⟨wI, hwI⟩ : ∃ wI : World, wI = wr := ⟨_, rfl⟩
                        subst hwI
                        go_wp2
                        go_loopw [311] (fun i311 wr => ∃ j : Nat, j ≤ NL ∧ i311 = .int .i64 (j : Int) ∧ Ext wI wr) (fun i _ => NL - (intOf i).toNat)
                        case atStart => exact ⟨0, Nat.zero_le _, rfl, Ext.refl _⟩
                        case round =>
                          obtain ⟨j, hj, rfl, hxj⟩ := hrel
                          have h4j := h417.trans (hxi.trans hxj)
                          by_cases hjL : j < NL
                          · as_aux_lemma =>
                            · have hjLI : (j : Int) < (NL : Int) := by omega
                              have hj1 : j + 1 ≤ NL := hjL
                              obtain ⟨y, hy⟩ := get_of_lt LX (i + 1 + j) (by omega)
                              have hyb := HME.out y (mem_of_get hy)
                              obtain ⟨q, rfl⟩ : ∃ q : Nat, y = (q : Int) := ⟨y.toNat, by omega⟩
                              have hqN : q < PN := by have := HPN.out; omega
                              obtain rfl := HA'.out (by omega)
                              have g8 : wr.cell? ⟨bc, oc + (i + 1) + j, none⟩ = some (.int .i64 (q : Int)) := by
                                obtain ⟨b8, o8, e8, g8⟩ := Ints.at_ (HQ2.out.ext (HX17.out.trans (hxi.trans hxj))) hy
                                cases e8
                                rw [Nat.add_assoc oc]; exact g8
                              have HTO : Hid (E = 0 → toldTo (oneC f st rs) d (Y : Int) p q PN = true) := by
                                unfold Hid
                                rw [← HPN.out]
                                exact fun e => HDE.out.told e i (i + 1 + j) p q (by omega) HXI.out hy
                              have HAL : Hid (memP ((p : Int), (q : Int)) t = alikeTo (oneC f st rs) (Y : Int) p q PN) := by
                                unfold Hid
                                rw [← HPN.out]
                                exact HDE.out.alike i (i + 1 + j) p q (by omega) HXI.out hy
                              have KR : Hid (∀ x w', x < PN → Ext w4 w' → Calls Tryz.prog 28 #[.agg #[.int .i64 f.pl, .int .i64 f.mi, .slice s.a1 f.tr.length s.c1, .slice s.a2 f.bl.length s.c2, .slice (some ⟨g, 0, none⟩) 1 s.c3], .int .i64 ((x : Nat) : Int), .int .i64 (Y : Int)] w' fun e w2 => ∃ B, e = .returned (.slice (some ⟨B, 0, none⟩) PN PN) ∧ Ext w' w2 ∧ w2.cell? ⟨B, p, none⟩ = some (.bool (heardM (farM (oneC f st rs)) ⟨0, (x : Int), (Y : Int)⟩ p)) ∧ w2.cell? ⟨B, q, none⟩ = some (.bool (heardM (farM (oneC f st rs)) ⟨0, (x : Int), (Y : Int)⟩ q))) := fun x w' hx h => by
                                refine (ring_any _ (oneC f st rs) x Y w' (HGV.out w' h) HOK.out (by rw [← HPN.out] at hx; exact hx) (by omega)).mono ?_
                                rintro e w2 ⟨B, rfl, hx2, hbr⟩
                                have hp' : p < (oneC f st rs).pl.toNat := by rw [← HPN.out] at hpN; exact hpN
                                have hq' : q < (oneC f st rs).pl.toNat := by rw [← HPN.out] at hqN; exact hqN
                                have hx' : x < (oneC f st rs).pl.toNat := by rw [← HPN.out] at hx; exact hx
                                refine ⟨B, by rw [← HPN.out]; rfl, hx2, ?_, ?_⟩
                                · exact hbr.at_ (by rw [rl_get (n := (oneC f st rs).pl.toNat) (ringN (oneC f st rs) x Y) (k := p) hp', fou_ring HOK.out hx' hp' hY7])
                                · exact hbr.at_ (by rw [rl_get (n := (oneC f st rs).pl.toNat) (ringN (oneC f st rs) x Y) (k := q) hq', fou_ring HOK.out hx' hq' hY7])
                              have KD : Hid (∀ (x : Nat) w', Ext w17 w' → Calls Tryz.prog 11 #[.slice Ad d.length kd, .int .i64 (x : Int)] w' fun e w2 => e = .returned (.bool (memI (x : Int) d)) ∧ Ext w' w2) := fun x w' h => by
                                refine (containsI_any (x : Int) Ad kd d w' (HId.out.ext h) (by have := HDE.out.dl; omega)).mono ?_
                                rintro e w2 ⟨rfl, rfl⟩
                                exact ⟨rfl, Ext.refl _⟩
                              have hd0 : toldTo (oneC f st rs) d (Y : Int) p q 0 = false := rfl
                              have ha0 : alikeTo (oneC f st rs) (Y : Int) p q 0 = true := rfl
                              have HD0 := hid hd0
                              have HA0 := hid ha0
                              clear hy hd0 ha0
                              obtain ⟨c0, c1, c2, c3, c4⟩ := FX4.out wr h4j
                              obtain ⟨wJ, hwJ⟩ : ∃ wJ : World, wJ = wr := ⟨_, rfl⟩
                              subst hwJ
                              go_wp2
                              clear c0 c1 c2 c3 c4
                              rw [HPNI.out]
                              go_loopw [41, 42, 318] (fun s41 s42 i318 wr => ∃ x : Nat, x ≤ PN ∧ i318 = .int .i64 (x : Int) ∧ s41 = .bool (toldTo (oneC f st rs) d (Y : Int) p q x) ∧ s42 = .bool (alikeTo (oneC f st rs) (Y : Int) p q x) ∧ Ext wJ wr) (fun _ _ i _ => PN - (intOf i).toNat)
                              case atStart => exact ⟨0, Nat.zero_le _, rfl, by rw [HD0.out], by rw [HA0.out], Ext.refl _⟩
                              case round =>
                                obtain ⟨x, hx, rfl, rfl, rfl, hxx⟩ := hrel
                                have h4x := h4j.trans hxx
                                have h17x := (hxi.trans hxj).trans hxx
                                obtain ⟨TD, hTD⟩ : ∃ TD, toldTo (oneC f st rs) d (Y : Int) p q x = TD := ⟨_, rfl⟩
                                obtain ⟨AL, hAL⟩ : ∃ AL, alikeTo (oneC f st rs) (Y : Int) p q x = AL := ⟨_, rfl⟩
                                by_cases hxP : x < PN
                                · as_aux_lemma =>
                                  · have hxPI : (x : Int) < (PN : Int) := by omega
                                    have hx1 : x + 1 ≤ PN := hxP
                                    have hx8 : x < 9 := by have := HPN.out; omega
                                    have hnt := toldTo_next (oneC f st rs) d (Y : Int) p q x
                                    have hna := alikeTo_next (oneC f st rs) (Y : Int) p q x
                                    have K62 := KR.out x wr hxP h4x
                                    obtain ⟨HP, hHP⟩ : ∃ HP, heardM (farM (oneC f st rs)) ⟨0, (x : Int), (Y : Int)⟩ p = HP := ⟨_, rfl⟩
                                    obtain ⟨HQx, hHQ⟩ : ∃ HQx, heardM (farM (oneC f st rs)) ⟨0, (x : Int), (Y : Int)⟩ q = HQx := ⟨_, rfl⟩
                                    obtain ⟨BD, hBD⟩ : ∃ BD, memI (x : Int) d = BD := ⟨_, rfl⟩
                                    rw [hTD, hBD, hHP, hHQ] at hnt
                                    rw [hAL, hHP, hHQ] at hna
                                    rw [hHP, hHQ] at K62
                                    have KDx : Hid (∀ w', Ext wr w' → Calls Tryz.prog 11 #[.slice Ad d.length kd, .int .i64 (x : Int)] w' fun e w2 => e = .returned (.bool BD) ∧ Ext w' w2) := fun w' h => by
                                      have := KD.out x w' (h17x.trans h)
                                      rw [hBD] at this
                                      exact this
                                    rw [hTD, hAL]
                                    have HNT := hid hnt
                                    have HNA := hid hna
                                    have HK62 := hid K62
                                    clear hnt hna hHP hHQ hBD hTD hAL K62
                                    obtain ⟨c0, c1, c2, c3, c4⟩ := FX4.out wr h4x
                                    go_wp2_with fail
                                    clear c0 c1 c2 c3 c4
                                    refine HK62.out.mono ?_
                                    clear HK62
                                    rintro e wB ⟨B, rfl, hB, hbp, hbq⟩
                                    have hpNI : (p : Int) < (PN : Int) := by omega
                                    have hqNI : (q : Int) < (PN : Int) := by omega
                                    have FS : Hid (∀ w', Ext wB w' → w'.cell? ⟨B, p, none⟩ = some (.bool HP) ∧ w'.cell? ⟨B, q, none⟩ = some (.bool HQx)) := fun w' h => ⟨h.cell hbp, h.cell hbq⟩
                                    have KDB : Hid (∀ w', Ext wB w' → Calls Tryz.prog 11 #[.slice Ad d.length kd, .int .i64 (x : Int)] w' fun e w2 => e = .returned (.bool BD) ∧ Ext w' w2) := fun w' h => KDx.out w' (hB.trans h)
                                    clear hbp hbq KDx
                                    go_upto_region 63 with fail
                                    go_cut [41] (fun s41 wx => s41 = .bool (TD || (BD && HP != HQx)) ∧ Ext wB wx)
                                    case first =>
                                      cases TD
                                      case true =>
                                        refine wp_region_shut Ext (fun w' => Ext wB w') (fun
                                          | _ => none) (by kernel_rfl) (by kernel_rfl) (fun _ _ h k => h.trans k) ?hTe0 (Ext.drew (Ext.refl wB)) ?_
                                        case hTe0 =>
                                          intro i R hR
                                          cases hR
                                        refine wM_val ?ue00 rfl rfl Ext.refl (fun w' hD => ?he00) (fun phe00 => ?ne00)
                                        case he00 =>
                                          obtain ⟨d0, d1⟩ := FS.out w' hD.1
                                          go_simp; rfl
                                        simp only [Act.put, List.setIfInBounds_toArray, List.set_cons_succ, List.set_cons_zero, Nat.reduceAdd]
                                        refine wM_val ?ue01 rfl rfl Ext.refl (fun w' hD => ?he01) (fun phe01 => ?ne01)
                                        case he01 =>
                                          obtain ⟨d0, d1⟩ := FS.out w' hD.1
                                          go_simp; rfl
                                        simp only [Act.put, List.setIfInBounds_toArray, List.set_cons_succ, List.set_cons_zero, Nat.reduceAdd]
                                        refine wM_skip rfl ?_
                                        simp only [Act.put, List.setIfInBounds_toArray, List.set_cons_succ, List.set_cons_zero, Nat.reduceAdd]
                                        refine wM_skip rfl ?_
                                        simp only [Act.put, List.setIfInBounds_toArray, List.set_cons_succ, List.set_cons_zero, Nat.reduceAdd]
                                        refine wM_skip rfl ?_
                                        simp only [Act.put, List.setIfInBounds_toArray, List.set_cons_succ, List.set_cons_zero, Nat.reduceAdd]
                                        refine wM_skip rfl ?_
                                        simp only [Act.put, List.setIfInBounds_toArray, List.set_cons_succ, List.set_cons_zero, Nat.reduceAdd]
                                        refine wM_skip rfl ?_
                                        simp only [Act.put, List.setIfInBounds_toArray, List.set_cons_succ, List.set_cons_zero, Nat.reduceAdd]
                                        refine wM_skip rfl ?_
                                        simp only [Act.put, List.setIfInBounds_toArray, List.set_cons_succ, List.set_cons_zero, Nat.reduceAdd]
                                        refine wM_skip rfl ?_
                                        simp only [Act.put, List.setIfInBounds_toArray, List.set_cons_succ, List.set_cons_zero, Nat.reduceAdd]
                                        refine wM_skip rfl ?_
                                        simp only [Act.put, List.setIfInBounds_toArray, List.set_cons_succ, List.set_cons_zero, Nat.reduceAdd]
                                        refine wM_skip rfl ?_
                                        simp only [Act.put, List.setIfInBounds_toArray, List.set_cons_succ, List.set_cons_zero, Nat.reduceAdd]
                                        refine wM_skip rfl ?_
                                        simp only [Act.put, List.setIfInBounds_toArray, List.set_cons_succ, List.set_cons_zero, Nat.reduceAdd]
                                        refine wM_skip rfl ?_
                                        simp only [Act.put, List.setIfInBounds_toArray, List.set_cons_succ, List.set_cons_zero, Nat.reduceAdd]
                                        refine wM_skip rfl ?_
                                        simp only [Act.put, List.setIfInBounds_toArray, List.set_cons_succ, List.set_cons_zero, Nat.reduceAdd]
                                        refine wM_skip rfl ?_
                                        simp only [Act.put, List.setIfInBounds_toArray, List.set_cons_succ, List.set_cons_zero, Nat.reduceAdd]
                                        refine wM_skip rfl ?_
                                        simp only [Act.put, List.setIfInBounds_toArray, List.set_cons_succ, List.set_cons_zero, Nat.reduceAdd]
                                        refine wM_val ?ue016 rfl rfl Ext.refl (fun w' hD => ?he016) (fun phe016 => ?ne016)
                                        case he016 =>
                                          obtain ⟨d0, d1⟩ := FS.out w' hD.1
                                          go_simp; rfl
                                        simp only [Act.put, List.setIfInBounds_toArray, List.set_cons_succ, List.set_cons_zero, Nat.reduceAdd]
                                        refine wM_val ?ue017 rfl rfl Ext.refl (fun w' hD => ?he017) (fun phe017 => ?ne017)
                                        case he017 =>
                                          obtain ⟨d0, d1⟩ := FS.out w' hD.1
                                          go_simp; rfl
                                        simp only [Act.put, List.setIfInBounds_toArray, List.set_cons_succ, List.set_cons_zero, Nat.reduceAdd]
                                        refine wM_nil ?_
                                        intro w9 hw9 hF9
                                        clear hF9

                                        go_wp2_with fail
                                        go_meet
                                        exact ⟨rfl, hw9⟩
                                      case false =>
                                        cases BD
                                        case false =>
                                          refine wp_region_shut Ext (fun w' => Ext wB w') (fun
                                            | 4 => some (fun v w' => v = .bool false)
                                            | _ => none) (by kernel_rfl) (by kernel_rfl) (fun _ _ h k => h.trans k) ?hTe1 (Ext.drew (Ext.refl wB)) ?_
                                          case hTe1 =>
                                            intro i R hR
                                            match i, hR with
                                            | 4, hR => cases hR; exact fun _ _ _ h _ => h
                                          refine wM_val ?ue10 rfl rfl Ext.refl (fun w' hD => ?he10) (fun phe10 => ?ne10)
                                          case he10 =>
                                            obtain ⟨d0, d1⟩ := FS.out w' hD.1
                                            go_simp; rfl
                                          simp only [Act.put, List.setIfInBounds_toArray, List.set_cons_succ, List.set_cons_zero, Nat.reduceAdd]
                                          refine wM_val ?ue11 rfl rfl Ext.refl (fun w' hD => ?he11) (fun phe11 => ?ne11)
                                          case he11 =>
                                            obtain ⟨d0, d1⟩ := FS.out w' hD.1
                                            go_simp; rfl
                                          simp only [Act.put, List.setIfInBounds_toArray, List.set_cons_succ, List.set_cons_zero, Nat.reduceAdd]
                                          refine wM_val ?ue12 rfl rfl Ext.refl (fun w' hD => ?he12) (fun phe12 => ?ne12)
                                          case he12 =>
                                            obtain ⟨d0, d1⟩ := FS.out w' hD.1
                                            go_simp; rfl
                                          simp only [Act.put, List.setIfInBounds_toArray, List.set_cons_succ, List.set_cons_zero, Nat.reduceAdd]
                                          refine wM_val ?ue13 rfl rfl Ext.refl (fun w' hD => ?he13) (fun phe13 => ?ne13)
                                          case he13 =>
                                            obtain ⟨d0, d1⟩ := FS.out w' hD.1
                                            go_simp; rfl
                                          simp only [Act.put, List.setIfInBounds_toArray, List.set_cons_succ, List.set_cons_zero, Nat.reduceAdd]
                                          refine wM_op _ rfl rfl (opens_call ?fe14 ?ge14 (fun w' hD => ?he14) (fun w' hD => ?ce14)) (fun v4 hv4 => ?ne14)
                                          case he14 => go_simp; constructor <;> rfl
                                          case ce14 =>
                                            refine (KDB.out w' hD.1).mono ?_
                                            rintro e w2 ⟨rfl, hb⟩
                                            exact ⟨_, rfl, hb, rfl⟩
                                          obtain ⟨_, -, -, rfl⟩ := hv4
                                          simp only [Act.put, List.setIfInBounds_toArray, List.set_cons_succ, List.set_cons_zero, Nat.reduceAdd]
                                          refine wM_val ?ue15 rfl rfl Ext.refl (fun w' hD => ?he15) (fun phe15 => ?ne15)
                                          case he15 =>
                                            obtain ⟨d0, d1⟩ := FS.out w' hD.1
                                            go_simp; rfl
                                          simp only [Act.put, List.setIfInBounds_toArray, List.set_cons_succ, List.set_cons_zero, Nat.reduceAdd]
                                          refine wM_skip rfl ?_
                                          simp only [Act.put, List.setIfInBounds_toArray, List.set_cons_succ, List.set_cons_zero, Nat.reduceAdd]
                                          refine wM_skip rfl ?_
                                          simp only [Act.put, List.setIfInBounds_toArray, List.set_cons_succ, List.set_cons_zero, Nat.reduceAdd]
                                          refine wM_skip rfl ?_
                                          simp only [Act.put, List.setIfInBounds_toArray, List.set_cons_succ, List.set_cons_zero, Nat.reduceAdd]
                                          refine wM_skip rfl ?_
                                          simp only [Act.put, List.setIfInBounds_toArray, List.set_cons_succ, List.set_cons_zero, Nat.reduceAdd]
                                          refine wM_skip rfl ?_
                                          simp only [Act.put, List.setIfInBounds_toArray, List.set_cons_succ, List.set_cons_zero, Nat.reduceAdd]
                                          refine wM_skip rfl ?_
                                          simp only [Act.put, List.setIfInBounds_toArray, List.set_cons_succ, List.set_cons_zero, Nat.reduceAdd]
                                          refine wM_skip rfl ?_
                                          simp only [Act.put, List.setIfInBounds_toArray, List.set_cons_succ, List.set_cons_zero, Nat.reduceAdd]
                                          refine wM_skip rfl ?_
                                          simp only [Act.put, List.setIfInBounds_toArray, List.set_cons_succ, List.set_cons_zero, Nat.reduceAdd]
                                          refine wM_skip rfl ?_
                                          simp only [Act.put, List.setIfInBounds_toArray, List.set_cons_succ, List.set_cons_zero, Nat.reduceAdd]
                                          refine wM_val ?ue115 rfl rfl Ext.refl (fun w' hD => ?he115) (fun phe115 => ?ne115)
                                          case he115 =>
                                            obtain ⟨d0, d1⟩ := FS.out w' hD.1
                                            go_simp; rfl
                                          simp only [Act.put, List.setIfInBounds_toArray, List.set_cons_succ, List.set_cons_zero, Nat.reduceAdd]
                                          refine wM_val ?ue116 rfl rfl Ext.refl (fun w' hD => ?he116) (fun phe116 => ?ne116)
                                          case he116 =>
                                            obtain ⟨d0, d1⟩ := FS.out w' hD.1
                                            go_simp; rfl
                                          simp only [Act.put, List.setIfInBounds_toArray, List.set_cons_succ, List.set_cons_zero, Nat.reduceAdd]
                                          refine wM_val ?ue117 rfl rfl Ext.refl (fun w' hD => ?he117) (fun phe117 => ?ne117)
                                          case he117 =>
                                            obtain ⟨d0, d1⟩ := FS.out w' hD.1
                                            go_simp; rfl
                                          simp only [Act.put, List.setIfInBounds_toArray, List.set_cons_succ, List.set_cons_zero, Nat.reduceAdd]
                                          refine wM_nil ?_
                                          intro w9 hw9 hF9
                                          clear hF9

                                          go_wp2_with fail
                                          go_meet
                                          exact ⟨rfl, hw9⟩
                                        case true =>
                                          refine wp_region_shut Ext (fun w' => Ext wB w') (fun
                                            | 4 => some (fun v w' => v = .bool true)
                                            | _ => none) (by kernel_rfl) (by kernel_rfl) (fun _ _ h k => h.trans k) ?hTe2 (Ext.drew (Ext.refl wB)) ?_
                                          case hTe2 =>
                                            intro i R hR
                                            match i, hR with
                                            | 4, hR => cases hR; exact fun _ _ _ h _ => h
                                          refine wM_val ?ue20 rfl rfl Ext.refl (fun w' hD => ?he20) (fun phe20 => ?ne20)
                                          case he20 =>
                                            obtain ⟨d0, d1⟩ := FS.out w' hD.1
                                            go_simp; rfl
                                          simp only [Act.put, List.setIfInBounds_toArray, List.set_cons_succ, List.set_cons_zero, Nat.reduceAdd]
                                          refine wM_val ?ue21 rfl rfl Ext.refl (fun w' hD => ?he21) (fun phe21 => ?ne21)
                                          case he21 =>
                                            obtain ⟨d0, d1⟩ := FS.out w' hD.1
                                            go_simp; rfl
                                          simp only [Act.put, List.setIfInBounds_toArray, List.set_cons_succ, List.set_cons_zero, Nat.reduceAdd]
                                          refine wM_val ?ue22 rfl rfl Ext.refl (fun w' hD => ?he22) (fun phe22 => ?ne22)
                                          case he22 =>
                                            obtain ⟨d0, d1⟩ := FS.out w' hD.1
                                            go_simp; rfl
                                          simp only [Act.put, List.setIfInBounds_toArray, List.set_cons_succ, List.set_cons_zero, Nat.reduceAdd]
                                          refine wM_val ?ue23 rfl rfl Ext.refl (fun w' hD => ?he23) (fun phe23 => ?ne23)
                                          case he23 =>
                                            obtain ⟨d0, d1⟩ := FS.out w' hD.1
                                            go_simp; rfl
                                          simp only [Act.put, List.setIfInBounds_toArray, List.set_cons_succ, List.set_cons_zero, Nat.reduceAdd]
                                          refine wM_op _ rfl rfl (opens_call ?fe24 ?ge24 (fun w' hD => ?he24) (fun w' hD => ?ce24)) (fun v4 hv4 => ?ne24)
                                          case he24 => go_simp; constructor <;> rfl
                                          case ce24 =>
                                            refine (KDB.out w' hD.1).mono ?_
                                            rintro e w2 ⟨rfl, hb⟩
                                            exact ⟨_, rfl, hb, rfl⟩
                                          obtain ⟨_, -, -, rfl⟩ := hv4
                                          simp only [Act.put, List.setIfInBounds_toArray, List.set_cons_succ, List.set_cons_zero, Nat.reduceAdd]
                                          refine wM_val ?ue25 rfl rfl Ext.refl (fun w' hD => ?he25) (fun phe25 => ?ne25)
                                          case he25 =>
                                            obtain ⟨d0, d1⟩ := FS.out w' hD.1
                                            go_simp; rfl
                                          simp only [Act.put, List.setIfInBounds_toArray, List.set_cons_succ, List.set_cons_zero, Nat.reduceAdd]
                                          refine wM_val ?ue26 rfl rfl Ext.refl (fun w' hD => ?he26) (fun phe26 => ?ne26)
                                          case he26 =>
                                            obtain ⟨d0, d1⟩ := FS.out w' hD.1
                                            go_simp; rfl
                                          simp only [Act.put, List.setIfInBounds_toArray, List.set_cons_succ, List.set_cons_zero, Nat.reduceAdd]
                                          refine wM_val ?ue27 rfl rfl Ext.refl (fun w' hD => ?he27) (fun phe27 => ?ne27)
                                          case he27 =>
                                            obtain ⟨d0, d1⟩ := FS.out w' hD.1
                                            go_simp; rfl
                                          simp only [Act.put, List.setIfInBounds_toArray, List.set_cons_succ, List.set_cons_zero, Nat.reduceAdd]
                                          refine wM_val ?ue28 rfl rfl Ext.refl (fun w' hD => ?he28) (fun phe28 => ?ne28)
                                          case he28 =>
                                            obtain ⟨d0, d1⟩ := FS.out w' hD.1
                                            go_simp; rfl
                                          simp only [Act.put, List.setIfInBounds_toArray, List.set_cons_succ, List.set_cons_zero, Nat.reduceAdd]
                                          refine wM_val ?ue29 rfl rfl Ext.refl (fun w' hD => ?he29) (fun phe29 => ?ne29)
                                          case he29 =>
                                            obtain ⟨d0, d1⟩ := FS.out w' hD.1
                                            go_simp; rfl
                                          simp only [Act.put, List.setIfInBounds_toArray, List.set_cons_succ, List.set_cons_zero, Nat.reduceAdd]
                                          refine wM_val ?ue210 rfl rfl Ext.refl (fun w' hD => ?he210) (fun phe210 => ?ne210)
                                          case he210 =>
                                            obtain ⟨d0, d1⟩ := FS.out w' hD.1
                                            go_simp; rfl
                                          simp only [Act.put, List.setIfInBounds_toArray, List.set_cons_succ, List.set_cons_zero, Nat.reduceAdd]
                                          refine wM_val ?ue211 rfl rfl Ext.refl (fun w' hD => ?he211) (fun phe211 => ?ne211)
                                          case he211 =>
                                            obtain ⟨d0, d1⟩ := FS.out w' hD.1
                                            go_simp; rfl
                                          simp only [Act.put, List.setIfInBounds_toArray, List.set_cons_succ, List.set_cons_zero, Nat.reduceAdd]
                                          refine wM_val ?ue212 rfl rfl Ext.refl (fun w' hD => ?he212) (fun phe212 => ?ne212)
                                          case he212 =>
                                            obtain ⟨d0, d1⟩ := FS.out w' hD.1
                                            go_simp; rfl
                                          simp only [Act.put, List.setIfInBounds_toArray, List.set_cons_succ, List.set_cons_zero, Nat.reduceAdd]
                                          refine wM_val ?ue213 rfl rfl Ext.refl (fun w' hD => ?he213) (fun phe213 => ?ne213)
                                          case he213 =>
                                            obtain ⟨d0, d1⟩ := FS.out w' hD.1
                                            go_simp; rfl
                                          simp only [Act.put, List.setIfInBounds_toArray, List.set_cons_succ, List.set_cons_zero, Nat.reduceAdd]
                                          refine wM_val ?ue214 rfl rfl Ext.refl (fun w' hD => ?he214) (fun phe214 => ?ne214)
                                          case he214 =>
                                            obtain ⟨d0, d1⟩ := FS.out w' hD.1
                                            go_simp; rfl
                                          simp only [Act.put, List.setIfInBounds_toArray, List.set_cons_succ, List.set_cons_zero, Nat.reduceAdd]
                                          refine wM_val ?ue215 rfl rfl Ext.refl (fun w' hD => ?he215) (fun phe215 => ?ne215)
                                          case he215 =>
                                            obtain ⟨d0, d1⟩ := FS.out w' hD.1
                                            go_simp; rfl
                                          simp only [Act.put, List.setIfInBounds_toArray, List.set_cons_succ, List.set_cons_zero, Nat.reduceAdd]
                                          refine wM_val ?ue216 rfl rfl Ext.refl (fun w' hD => ?he216) (fun phe216 => ?ne216)
                                          case he216 =>
                                            obtain ⟨d0, d1⟩ := FS.out w' hD.1
                                            go_simp; rfl
                                          simp only [Act.put, List.setIfInBounds_toArray, List.set_cons_succ, List.set_cons_zero, Nat.reduceAdd]
                                          refine wM_val ?ue217 rfl rfl Ext.refl (fun w' hD => ?he217) (fun phe217 => ?ne217)
                                          case he217 =>
                                            obtain ⟨d0, d1⟩ := FS.out w' hD.1
                                            go_simp; rfl
                                          simp only [Act.put, List.setIfInBounds_toArray, List.set_cons_succ, List.set_cons_zero, Nat.reduceAdd]
                                          refine wM_nil ?_
                                          intro w9 hw9 hF9
                                          clear hF9

                                          go_wp2_with fail
                                          go_meet
                                          exact ⟨rfl, hw9⟩
                                    case rest =>
                                      obtain ⟨rfl, hcx⟩ := hcut
                                      obtain ⟨wC, hwC⟩ : ∃ wC : World, wC = wc := ⟨_, rfl⟩
                                      subst hwC
                                      rw [← HNT.out]
                                      have FS2 : Hid (∀ w', Ext wC w' → w'.cell? ⟨B, p, none⟩ = some (.bool HP) ∧ w'.cell? ⟨B, q, none⟩ = some (.bool HQx)) := fun w' h => FS.out w' (hcx.trans h)
                                      clear FS KDB HNT
                                      have hCx := hxx.trans (hB.trans hcx)
                                      cases AL
                                      case false =>
                                        go_wp2
                                        refine wp_region_shut Ext (fun w' => Ext wC w') (fun
                                          | _ => none) (by kernel_rfl) (by kernel_rfl) (fun _ _ h k => h.trans k) ?hTe3 (Ext.drew (Ext.refl wC)) ?_
                                        case hTe3 =>
                                          intro i R hR
                                          cases hR
                                        refine wM_val ?ue30 rfl rfl Ext.refl (fun w' hD => ?he30) (fun phe30 => ?ne30)
                                        case he30 =>
                                          obtain ⟨d0, d1⟩ := FS2.out w' hD.1
                                          go_simp; rfl
                                        simp only [Act.put, List.setIfInBounds_toArray, List.set_cons_succ, List.set_cons_zero, Nat.reduceAdd]
                                        refine wM_val ?ue31 rfl rfl Ext.refl (fun w' hD => ?he31) (fun phe31 => ?ne31)
                                        case he31 =>
                                          obtain ⟨d0, d1⟩ := FS2.out w' hD.1
                                          go_simp; rfl
                                        simp only [Act.put, List.setIfInBounds_toArray, List.set_cons_succ, List.set_cons_zero, Nat.reduceAdd]
                                        refine wM_skip rfl ?_
                                        simp only [Act.put, List.setIfInBounds_toArray, List.set_cons_succ, List.set_cons_zero, Nat.reduceAdd]
                                        refine wM_skip rfl ?_
                                        simp only [Act.put, List.setIfInBounds_toArray, List.set_cons_succ, List.set_cons_zero, Nat.reduceAdd]
                                        refine wM_skip rfl ?_
                                        simp only [Act.put, List.setIfInBounds_toArray, List.set_cons_succ, List.set_cons_zero, Nat.reduceAdd]
                                        refine wM_skip rfl ?_
                                        simp only [Act.put, List.setIfInBounds_toArray, List.set_cons_succ, List.set_cons_zero, Nat.reduceAdd]
                                        refine wM_skip rfl ?_
                                        simp only [Act.put, List.setIfInBounds_toArray, List.set_cons_succ, List.set_cons_zero, Nat.reduceAdd]
                                        refine wM_skip rfl ?_
                                        simp only [Act.put, List.setIfInBounds_toArray, List.set_cons_succ, List.set_cons_zero, Nat.reduceAdd]
                                        refine wM_skip rfl ?_
                                        simp only [Act.put, List.setIfInBounds_toArray, List.set_cons_succ, List.set_cons_zero, Nat.reduceAdd]
                                        refine wM_skip rfl ?_
                                        simp only [Act.put, List.setIfInBounds_toArray, List.set_cons_succ, List.set_cons_zero, Nat.reduceAdd]
                                        refine wM_skip rfl ?_
                                        simp only [Act.put, List.setIfInBounds_toArray, List.set_cons_succ, List.set_cons_zero, Nat.reduceAdd]
                                        refine wM_val ?ue311 rfl rfl Ext.refl (fun w' hD => ?he311) (fun phe311 => ?ne311)
                                        case he311 =>
                                          obtain ⟨d0, d1⟩ := FS2.out w' hD.1
                                          go_simp; rfl
                                        simp only [Act.put, List.setIfInBounds_toArray, List.set_cons_succ, List.set_cons_zero, Nat.reduceAdd]
                                        refine wM_val ?ue312 rfl rfl Ext.refl (fun w' hD => ?he312) (fun phe312 => ?ne312)
                                        case he312 =>
                                          obtain ⟨d0, d1⟩ := FS2.out w' hD.1
                                          go_simp; rfl
                                        simp only [Act.put, List.setIfInBounds_toArray, List.set_cons_succ, List.set_cons_zero, Nat.reduceAdd]
                                        refine wM_nil ?_
                                        intro w9 hw9 hF9
                                        clear hF9

                                        have hxN := hCx.trans hw9
                                        have hna2 : alikeTo (oneC f st rs) (Y : Int) p q (x + 1) = false := by rw [HNA.out]; rfl
                                        clear HNA FS2
                                        have HNA := hid hna2
                                        clear hna2
                                        go_wp2
                                        go_roundw
                                        case rel => exact ⟨x + 1, hx1, by go_num, rfl, by rw [HNA.out], hxN⟩
                                        case measure => simp [intOf]; omega
                                      case true =>
                                        go_wp2
                                        refine wp_region_shut Ext (fun w' => Ext wC w') (fun
                                          | _ => none) (by kernel_rfl) (by kernel_rfl) (fun _ _ h k => h.trans k) ?hTe4 (Ext.drew (Ext.refl wC)) ?_
                                        case hTe4 =>
                                          intro i R hR
                                          cases hR
                                        refine wM_val ?ue40 rfl rfl Ext.refl (fun w' hD => ?he40) (fun phe40 => ?ne40)
                                        case he40 =>
                                          obtain ⟨d0, d1⟩ := FS2.out w' hD.1
                                          go_simp; rfl
                                        simp only [Act.put, List.setIfInBounds_toArray, List.set_cons_succ, List.set_cons_zero, Nat.reduceAdd]
                                        refine wM_val ?ue41 rfl rfl Ext.refl (fun w' hD => ?he41) (fun phe41 => ?ne41)
                                        case he41 =>
                                          obtain ⟨d0, d1⟩ := FS2.out w' hD.1
                                          go_simp; rfl
                                        simp only [Act.put, List.setIfInBounds_toArray, List.set_cons_succ, List.set_cons_zero, Nat.reduceAdd]
                                        refine wM_val ?ue42 rfl rfl Ext.refl (fun w' hD => ?he42) (fun phe42 => ?ne42)
                                        case he42 =>
                                          obtain ⟨d0, d1⟩ := FS2.out w' hD.1
                                          go_simp; rfl
                                        simp only [Act.put, List.setIfInBounds_toArray, List.set_cons_succ, List.set_cons_zero, Nat.reduceAdd]
                                        refine wM_val ?ue43 rfl rfl Ext.refl (fun w' hD => ?he43) (fun phe43 => ?ne43)
                                        case he43 =>
                                          obtain ⟨d0, d1⟩ := FS2.out w' hD.1
                                          go_simp; rfl
                                        simp only [Act.put, List.setIfInBounds_toArray, List.set_cons_succ, List.set_cons_zero, Nat.reduceAdd]
                                        refine wM_val ?ue44 rfl rfl Ext.refl (fun w' hD => ?he44) (fun phe44 => ?ne44)
                                        case he44 =>
                                          obtain ⟨d0, d1⟩ := FS2.out w' hD.1
                                          go_simp; rfl
                                        simp only [Act.put, List.setIfInBounds_toArray, List.set_cons_succ, List.set_cons_zero, Nat.reduceAdd]
                                        refine wM_val ?ue45 rfl rfl Ext.refl (fun w' hD => ?he45) (fun phe45 => ?ne45)
                                        case he45 =>
                                          obtain ⟨d0, d1⟩ := FS2.out w' hD.1
                                          go_simp; rfl
                                        simp only [Act.put, List.setIfInBounds_toArray, List.set_cons_succ, List.set_cons_zero, Nat.reduceAdd]
                                        refine wM_val ?ue46 rfl rfl Ext.refl (fun w' hD => ?he46) (fun phe46 => ?ne46)
                                        case he46 =>
                                          obtain ⟨d0, d1⟩ := FS2.out w' hD.1
                                          go_simp; rfl
                                        simp only [Act.put, List.setIfInBounds_toArray, List.set_cons_succ, List.set_cons_zero, Nat.reduceAdd]
                                        refine wM_val ?ue47 rfl rfl Ext.refl (fun w' hD => ?he47) (fun phe47 => ?ne47)
                                        case he47 =>
                                          obtain ⟨d0, d1⟩ := FS2.out w' hD.1
                                          go_simp; rfl
                                        simp only [Act.put, List.setIfInBounds_toArray, List.set_cons_succ, List.set_cons_zero, Nat.reduceAdd]
                                        refine wM_val ?ue48 rfl rfl Ext.refl (fun w' hD => ?he48) (fun phe48 => ?ne48)
                                        case he48 =>
                                          obtain ⟨d0, d1⟩ := FS2.out w' hD.1
                                          go_simp; rfl
                                        simp only [Act.put, List.setIfInBounds_toArray, List.set_cons_succ, List.set_cons_zero, Nat.reduceAdd]
                                        refine wM_val ?ue49 rfl rfl Ext.refl (fun w' hD => ?he49) (fun phe49 => ?ne49)
                                        case he49 =>
                                          obtain ⟨d0, d1⟩ := FS2.out w' hD.1
                                          go_simp; rfl
                                        simp only [Act.put, List.setIfInBounds_toArray, List.set_cons_succ, List.set_cons_zero, Nat.reduceAdd]
                                        refine wM_val ?ue410 rfl rfl Ext.refl (fun w' hD => ?he410) (fun phe410 => ?ne410)
                                        case he410 =>
                                          obtain ⟨d0, d1⟩ := FS2.out w' hD.1
                                          go_simp; rfl
                                        simp only [Act.put, List.setIfInBounds_toArray, List.set_cons_succ, List.set_cons_zero, Nat.reduceAdd]
                                        refine wM_val ?ue411 rfl rfl Ext.refl (fun w' hD => ?he411) (fun phe411 => ?ne411)
                                        case he411 =>
                                          obtain ⟨d0, d1⟩ := FS2.out w' hD.1
                                          go_simp; rfl
                                        simp only [Act.put, List.setIfInBounds_toArray, List.set_cons_succ, List.set_cons_zero, Nat.reduceAdd]
                                        refine wM_val ?ue412 rfl rfl Ext.refl (fun w' hD => ?he412) (fun phe412 => ?ne412)
                                        case he412 =>
                                          obtain ⟨d0, d1⟩ := FS2.out w' hD.1
                                          go_simp; rfl
                                        simp only [Act.put, List.setIfInBounds_toArray, List.set_cons_succ, List.set_cons_zero, Nat.reduceAdd]
                                        refine wM_nil ?_
                                        intro w9 hw9 hF9
                                        clear hF9

                                        have hxN := hCx.trans hw9
                                        have hna2 : alikeTo (oneC f st rs) (Y : Int) p q (x + 1) = (HP == HQx) := by rw [HNA.out]; rfl
                                        clear HNA FS2
                                        have HNA := hid hna2
                                        clear hna2
                                        go_wp2
                                        go_roundw
                                        case rel => exact ⟨x + 1, hx1, by go_num, rfl, by rw [HNA.out], hxN⟩
                                        case measure => simp [intOf]; omega
                                · obtain rfl : x = PN := by omega
                                  have hto := HTO.out
                                  rw [hTD] at hto
                                  rw [hTD, hAL]
                                  have K66 := containsP_any At kt t ((p : Int), (q : Int)) wr (Rows.ext HPt.out h17x) (by have := HDE.out.tl; omega)
                                  rw [HAL.out, hAL, HTL.out] at K66
                                  have HK66 := hid K66
                                  have HTD := hid hto
                                  have bAA : (AL != AL) = false := by simp
                                  clear K66 hto hTD hAL HTO HAL KR KD
                                  rcases HDE.out.e06 with ⟨e1, e2⟩ | ⟨e1, e2⟩
                                  · obtain rfl := HTD.out e1
                                    clear e2
                                    subst e1
                                    go_wp2_with fail
                                    refine HK66.out.mono ?_
                                    rintro e wz ⟨rfl, hz⟩
                                    have hxN := hxj.trans (hxx.trans hz)
                                    go_wp2
                                    go_roundw
                                    case rel => exact ⟨j + 1, hj1, by go_num, hxN⟩
                                    case measure => simp [intOf]; omega
                                  · clear HTD e2
                                    subst e1
                                    go_wp2_with fail
                                    refine HK66.out.mono ?_
                                    rintro e wz ⟨rfl, hz⟩
                                    have hxN := hxj.trans (hxx.trans hz)
                                    go_wp2
                                    go_roundw
                                    case rel => exact ⟨j + 1, hj1, by go_num, hxN⟩
                                    case measure => simp [intOf]; omega
                          · have hjLI : ¬ (j : Int) < (NL : Int) := by omega
                            have hxN := hxi.trans hxj
                            go_wp2
                            go_roundw
                            case rel => exact ⟨i + 1, hi1, by go_num, hxN⟩
                            case measure => simp [intOf]; omega
                  · have hiLI : ¬ (i : Int) < (LX.length : Int) := by omega
                    have hfin0 := HEX.out.trans (h417.trans hxi)
                    go_wp2_with fail
                    refine (awake_any wr).mono ?_
                    rintro e w18 ⟨rfl, h18⟩
                    have hfin := hfin0.trans h18
                    go_wp2
                    go_ret
                    exact ⟨rfl, hfin⟩
end Go.Proofs.YtlonpgbapiemcaaGreat
