/- The walk of FogStill. Printed by my gen_fstl.py. -/
import Derived.Test.YtpbpcplboikpcaaGreatFGSt
import Derived.Test.YtpbpcplboikpcaaGreatFMade
import Derived.Test.YtpbpcplboikpcaaGreatFTold
import Derived.Test.YtpbpcplboikpcaaGreatFTripP
import Derived.Test.YtpbpcplboikpcaaGreatG5
import Derived.Deep.DeepCutAuto
import Derived.Deep.CutBlock
import Derived.Test.YtpbpcplboikpcaaGreatFOne
import Derived.Test.YtpbpcplboikpcaaGreatFStlP
import Derived.Test.YtpbpcplboikpcaaGreatFFouP
import Derived.Test.YtpbpcplboikpcaaGreatFStill
import Derived.Test.YtpbpcplboikpcaaGreatFConL
import Derived.Deep.RegionHeld3
import Derived.Deep.QuietTactic
import Derived.BigQuiet
namespace Go.Proofs.YtpbpcplboikpcaaGreat
open Go Go.RowKit Go.Shelf
set_option linter.unusedVariables false
set_option linter.unusedSimpArgs false

/-- The walks that were met, each in a row of its own. -/
def MetR (n : Nat) (w : World) (v : Value) (ms : List (List Int)) : Prop := ∃ A c xs B, v = .slice A ms.length c ∧ w.ownsRow B 42 1 (.slice A ms.length c) ms.length xs ∧ OwnRows w 0 xs ms ∧ n ≤ B ∧ B ≤ w.heap.size
theorem MetR.nil (w : World) : MetR w.heap.size w (.slice none 0 0) [] := ⟨none, 0, [], w.heap.size, rfl, own_nil _ _ _ _, OwnRows.nil _ _, Nat.le_refl _, Nat.le_refl _⟩
theorem MetR.bel {n : Nat} {w w' : World} {v : Value} {ms : List (List Int)} {D : Nat} (h : MetR n w v ms) (hh : HeapR w D) (hD : D < n) (hb : Bel D w w') : MetR n w' v ms := by
  obtain ⟨A, c, xs, B, e, h1, h2, h3⟩ := h
  refine ⟨A, c, xs, B, e, hb.own h1 (fun g hg e => by have := (h1.lt g hg).1; omega), h2.keep (S := fun k => k = D) (hb.belS rfl) (fun g hg => ?_), h3.1, Nat.le_trans h3.2 hb.size⟩
  obtain ⟨cs, T, e1, -, -, -, n4, -⟩ := hh.fogB g hg
  exact ⟨cs, T, e1, n4⟩
theorem MetR.rows {n : Nat} {w : World} {v : Value} {ms : List (List Int)} (h : MetR n w v ms) : ∃ A c, v = .slice A ms.length c ∧ IntRows w A ms := by
  obtain ⟨A, c, xs, B, e, h1, h2, h3⟩ := h
  exact ⟨A, c, e, h2.ints h1⟩
set_option maxRecDepth 100000 in
set_option maxHeartbeats 16000000 in
theorem stlw_any (A : Option Addr) (l : List Int) (cap : Nat) (Aq : Option Addr) (lq : List Int) (capq : Nat) (w : World) (hA : Bytes w A l) (hl : ∀ x ∈ l, 0 ≤ x ∧ x ≤ 255) (hlt : ∀ a, A = some a → l = [] ∨ a.block < w.heap.size) (hn : l.length ≤ 9223372036854775807) (hAq : Bytes w Aq lq) (hlq : ∀ x ∈ lq, 0 ≤ x ∧ x ≤ 255) (hltq : ∀ a, Aq = some a → lq = [] ∨ a.block < w.heap.size) (hnq : lq.length ≤ 9223372036854775807) :
    Calls Tryz.prog 10 #[.slice A l.length cap, .slice Aq lq.length capq] w fun e w' => e = .returned (.bool true) ∧ Ext w w' := by
  have HPQ : Hid (∀ w', Ext w w' → Calls Tryz.prog 59 #[.slice Aq lq.length capq] w' fun e w2 => ∃ D, e = .returned (.pointer (some ⟨D, 0, none⟩)) ∧ w'.heap.size ≤ D ∧ Ext w' w2 ∧ HeapR w2 D) := fun w' h => pile_any Aq lq capq w' (Rd.ext hAq h) hlq (fun a e => (hltq a e).imp id (fun k => Nat.lt_of_lt_of_le k h.size)) hnq
  clear hAq hlq hltq hnq
  have K1 := hid (pile_any A l cap w hA hl hlt hn)
  clear hA hl hlt hn
  go_enter Tryz.func10, Tryz.ntmps10
  go_wp2_with fail
  refine K1.out.mono ?_
  clear K1
  rintro e w1 ⟨D, rfl, hD, hx1, hh1⟩
  have hDw := hh1.lt
  go_wp2_with fail
  refine (made_any D 7 6 1 w1 hh1 (by decide) (by decide) (by decide) (by decide) (by decide)).mono ?_
  rintro e w2 ⟨v, f, rfl, hMF, hLO, ⟨B, hB, hg⟩, hb2, hh2⟩
  have hx2 : Ext w w2 := hx1.then_bel hD hb2
  obtain ⟨s, xs, rfl, G0⟩ := GSt.start hg hh2 hx2 (by omega) hD
  obtain ⟨w3, hw3⟩ : ∃ w3, w2.alloc (.cells (mcells f s) 28) = w3 := ⟨_, rfl⟩
  obtain ⟨F, hF⟩ : ∃ F, w2.heap.size = F := ⟨_, rfl⟩
  rw [hw3, hF] at G0
  have HMF := hid hMF
  have HLO := hid hLO
  have HW3 := hid hw3
  have HF := hid hF
  unfold mcells at HW3
  clear hg hMF hLO hw3 hF hb2 hh2 hx1 hx2 hh1
  have G0c := G0.cells
  obtain ⟨c0, c1, c2, c3, c4⟩ := G0c
  unfold Ads.val fval
  go_upto_region 3 with fail
  rw [HW3.out, HF.out]
  clear HW3 HF
  obtain ⟨st1, hct1⟩ := made_one HMF.out (by decide)
  obtain ⟨g1, A1, k1, A2, k2, ea1, -, oS, -, q0, -⟩ := G0.one hct1
  have hok1 := HMF.out.ok
  have hmi1 : 0 ≤ f.mi ∧ f.mi ≤ 8 := hok1.mi
  obtain ⟨z1, z2⟩ := one_cart HMF.out.check hct1
  have hm1 : (⟨st1, []⟩ : Ct) ∈ f.ct := by rw [hct1]; simp
  have hl1 := lost_free hok1 hm1 rfl
  have hsE : stillE f 0 = 0 := by unfold stillE; rw [if_neg (fun x => x z1), z2, hl1]; rfl
  have hsV : stillV f 0 = f.mi := by unfold stillV; rw [if_pos hsE, z2, still_free hok1 hm1 rfl]; omega
  have HAT1 : Hid (∀ m : Nat, m ≤ f.mi.toNat → atE f 0 (m : Int) = 0 ∧ (∀ x ∈ st1, memI x (atL f 0 (m : Int)) = true) ∧ (atL f 0 (m : Int)).length ≤ 8) := fun m hm => by
    have hmo : miOK f (m : Int) = true := by unfold miOK; rw [inB_iff]; omega
    have e : atE f 0 (m : Int) = 0 := by unfold atE; rw [if_neg (fun x => x z1), hmo, z2, hl1]; rfl
    have e2 : atL f 0 (m : Int) = natI (canN (farM f) f ⟨st1, []⟩ m) := by unfold atL; rw [if_pos e, z2, Int.toNat_natCast]
    refine ⟨e, fun x hx => ?_, by rw [e2]; exact (canN_lt hok1.pl.2 m).2⟩
    rw [e2, mem_memI]
    have h1 := can_start hok1 hm1 rfl hx hm
    have hb := hok1.st _ hm1 x hx
    unfold natI
    exact List.mem_map.2 ⟨x.toNat, h1, by omega⟩
  have hst1 : st1.length ≤ 8 := by have := st_len hok1 hm1; omega
  have hct0 : 0 < f.ct.length := by rw [hct1]; simp
  have HSZ1 := hid (ok_sized hok1)
  have FX3 : Hid (∀ w', Ext w3 w' → (w'.cell? ⟨F, 0, none⟩ = some (.int .i64 f.pl) ∧ w'.cell? ⟨F, 1, none⟩ = some (.int .i64 f.mi) ∧ w'.cell? ⟨F, 2, none⟩ = some (.slice s.a1 f.tr.length s.c1) ∧ w'.cell? ⟨F, 3, none⟩ = some (.slice s.a2 f.bl.length s.c2) ∧ w'.cell? ⟨F, 4, none⟩ = some (.slice (some ⟨g1, 0, none⟩) f.ct.length s.c3)) ∧ w'.cell? ⟨g1, 0, none⟩ = some (.slice A1 st1.length k1) ∧ Ints w' A1 st1) := fun w' h => by
    have q := (G0.out h).cells
    rw [ea1] at q
    exact ⟨q, h.cell q0, (Rd.of_own oS : Ints w3 A1 st1).ext h⟩
  have HG3 : Hid (∀ w', Ext w3 w' → FgR w' (.agg #[.int .i64 f.pl, .int .i64 f.mi, .slice s.a1 f.tr.length s.c1, .slice s.a2 f.bl.length s.c2, .slice (some ⟨g1, 0, none⟩) f.ct.length s.c3]) f) := fun w' h => by
    have q := (G0.out h).fg
    unfold Ads.val fval at q
    rw [ea1] at q
    exact q
  have K3 := still_any _ f 0 w3 (HG3.out w3 (Ext.refl _)) HSZ1.out
  unfold StillPost at K3
  rw [hsE, hsV] at K3
  have HK3 := hid K3
  have HEA := hid ea1
  clear K3 hsE hsV hl1 hm1 z1 z2 hct1 q0 oS hok1 ea1 c0 c1 c2 c3 c4
  obtain ⟨⟨c0, c1, c2, c3, c4⟩, -, -⟩ := FX3.out w3 (Ext.refl _)
  go_wp2_with fail
  clear c0 c1 c2 c3 c4
  refine HK3.out.mono ?_
  clear HK3
  rintro e w5 ⟨rfl, h5⟩
  obtain ⟨⟨c0, c1, c2, c3, c4⟩, -, -⟩ := FX3.out w5 h5
  go_wp2
  clear c0 c1 c2 c3 c4
  go_loopw [43] (fun i43 wr => ∃ m : Nat, (m : Int) ≤ f.mi + 1 ∧ i43 = .int .i64 (m : Int) ∧ Ext w3 wr) (fun i _ => (f.mi + 1).toNat - (intOf i).toNat)
  case atStart => exact ⟨0, by omega, rfl, h5⟩
  case round =>
    obtain ⟨m, hm, rfl, hxr⟩ := hrel
    by_cases hlt : (m : Int) < f.mi + 1
    · have hmm : m ≤ f.mi.toNat := by omega
      obtain ⟨LX, hLX⟩ : ∃ N, atL f 0 (m : Int) = N := ⟨_, rfl⟩
      obtain ⟨t1, t2, t3⟩ := HAT1.out m hmm
      rw [hLX] at t2 t3
      have Q1 := at_any _ f 0 (m : Int) wr (HG3.out wr hxr) HSZ1.out
      unfold AtPost at Q1
      rw [hLX, t1] at Q1
      have Q1 := hid Q1
      have hq2 : (st1.any fun x => !memI x LX) = false := by
        rw [List.any_eq_false]
        intro x hx
        rw [t2 x hx]; simp
      have HQ2 := hid hq2
      clear hLX t1 t2 hq2
      obtain ⟨⟨c0, c1, c2, c3, c4⟩, -, -⟩ := FX3.out wr hxr
      go_wp2_with fail
      clear c0 c1 c2 c3 c4
      refine Q1.out.mono ?_
      clear Q1
      rintro e w16 ⟨r, rfl, h16, AX, kX, rfl, hI1, -⟩
      obtain ⟨w17, hw17⟩ : ∃ w17, w16.alloc (.cells #[.slice AX LX.length kX] 42) = w17 := ⟨_, rfl⟩
      have h17 : Ext w16 w17 := by rw [← hw17]; exact Ext.alloc (Ext.refl _) _
      have hbx : w17.cell? ⟨w16.heap.size, 0, none⟩ = some (.slice AX LX.length kX) := by rw [← hw17]; simp [go_sem]
      have hr17 := hxr.trans (h16.trans h17)
      have HI1 := hid (hI1.ext h17)
      have HBX := hid hbx
      have HW17 := hid hw17
      clear hw17 hbx hI1 h17 h16
      go_upto_region 10 with fail
      rw [HW17.out]
      clear HW17
      obtain ⟨⟨c0, c1, c2, c3, c4⟩, s0, sI⟩ := FX3.out w17 hr17
      have KC2 := hid (containsFunc_int A1 k1 st1 _ anyx _ w17 sI (by omega) (anyx_all st1) (lstl1_fn w17 w16.heap.size AX kX LX (by omega) HBX.out HI1.out))
      rw [HQ2.out] at KC2
      clear HQ2 sI
      go_wp2_with fail
      clear c0 c1 c2 c3 c4 s0
      refine KC2.out.mono ?_
      clear KC2
      rintro e w20 ⟨rfl, h20⟩
      have hxN := hr17.trans h20
      have hmN : ((m + 1 : Nat) : Int) ≤ f.mi + 1 := by omega
      clear HI1 HBX
      go_wp2
      go_roundw
      case rel => exact ⟨m + 1, hmN, by go_num, hxN⟩
      case measure => simp [intOf]; omega
    · have G0 := G0.out hxr
      obtain ⟨w6, hw6⟩ : ∃ w6 : World, w6 = wr := ⟨_, rfl⟩
      subst hw6
      clear FX3 HG3 HAT1 HEA HSZ1 hct0 hst1
      obtain ⟨c0, c1, c2, c3, c4⟩ := G0.cells
      obtain ⟨st, hct⟩ := made_one HMF.out (by decide)
      have HCA : Hid (f.ct[0]? = some ⟨st, []⟩) := by unfold Hid; rw [hct]; rfl
      have HCT := hid hct
      obtain ⟨g, ega, -, -, hFg, -, -⟩ := G0.setRp HCA.out (A := none) (cA := 0) (rs := []) (own_nil _ _ _ _)
      have hh3 := G0.hp
      have hct0 : 0 < f.ct.length := by rw [hct]; simp
      clear hct
      have FX : Hid (∀ w', (Bel D w6 w' ∧ HeapR w' D) → w'.cell? ⟨F, 0, none⟩ = some (.int .i64 f.pl) ∧ w'.cell? ⟨F, 1, none⟩ = some (.int .i64 f.mi) ∧ w'.cell? ⟨F, 2, none⟩ = some (.slice s.a1 f.tr.length s.c1) ∧ w'.cell? ⟨F, 3, none⟩ = some (.slice s.a2 f.bl.length s.c2) ∧ w'.cell? ⟨F, 4, none⟩ = some (.slice (some ⟨g, 0, none⟩) f.ct.length s.c3)) := fun w' h => by
        have q := (G0.bel h.1 h.2).cells
        rw [ega] at q
        exact q
      have HGV : Hid (∀ w', (Bel D w6 w' ∧ HeapR w' D) → OwnG w' (.agg #[.int .i64 f.pl, .int .i64 f.mi, .slice s.a1 f.tr.length s.c1, .slice s.a2 f.bl.length s.c2, .slice (some ⟨g, 0, none⟩) f.ct.length s.c3]) f) := fun w' h => by
        have q := (G0.bel h.1 h.2).g
        unfold Ads.val fval at q
        rw [ega] at q
        exact q
      have KW : Hid (∀ w', (Bel D w6 w' ∧ HeapR w' D) → Calls Tryz.prog 62 #[.pointer (some ⟨D, 0, none⟩), .agg #[.int .i64 f.pl, .int .i64 f.mi, .slice s.a1 f.tr.length s.c1, .slice s.a2 f.bl.length s.c2, .slice (some ⟨g, 0, none⟩) f.ct.length s.c3], .int .i64 0] w' fun e w2 => ∃ l A q, e = .returned (.slice A l.length q) ∧ Bel D w' w2 ∧ HeapR w2 D ∧ RealW f ⟨st, []⟩ l ∧ w2.ownsRow (D + 1) 3 1 (.slice A l.length q) l.length (l.map (.int .i64))) := fun w' h => by
        refine (walked_any D _ f 0 ⟨st, []⟩ w' h.2 (HGV.out w' h) HMF.out.ok HCA.out).mono ?_
        rintro e w2 ⟨l, A, q, B, rfl, hb, hh, hr, hB, ho⟩
        exact ⟨l, A, q, rfl, hb, hh, hr, own_lower ho (by have := h.2.lt; omega)⟩
      have KT : Hid (∀ (l : List Int) (A : Option Addr) (q : Nat) (w' : World), RealW f ⟨st, []⟩ l → w'.ownsRow (D + 1) 3 1 (.slice A l.length q) l.length (l.map (.int .i64)) → (Bel D w6 w' ∧ HeapR w' D) →
          Calls Tryz.prog 63 #[.pointer (some ⟨D, 0, none⟩), .agg #[.int .i64 f.pl, .int .i64 f.mi, .slice s.a1 f.tr.length s.c1, .slice s.a2 f.bl.length s.c2, .slice (some ⟨g, 0, none⟩) f.ct.length s.c3], .slice A l.length q, .int .i64 3] w' (ToldPost D w' f l)) := fun l A q w' hr ho h =>
        told_any D 3 _ f A q l (D + 1) w' h.2 (HGV.out w' h) HMF.out.ok hr.wl ho (by decide)
      go_wp2_with fail
      clear c0 c1 c2 c3 c4
      refine (KW.out _ ⟨Bel.refl D w6, hh3⟩).mono ?_
      rintro e wW ⟨la, AW, qW, rfl, hbW', hhW, hRA, hOA⟩
      clear KW
      obtain ⟨c0, c1, c2, c3, c4⟩ := FX.out wW ⟨hbW', hhW⟩
      go_upto_region 14 with fail
      clear c0 c1 c2 c3 c4
      go_cut [] (fun wx => ∃ rs xs', GSt D F (D + 1) w wx (oneC f st rs) s xs' ∧ OneF 7 6 (oneC f st rs) st rs la ∧ wx.ownsRow (D + 1) 3 1 (.slice AW la.length qW) la.length (la.map (.int .i64)))
      case first =>
        obtain ⟨hq0, hq1⟩ : Bel D w6 wW.drew ∧ HeapR wW.drew D := ⟨hbW'.trans (Bel.refl D wW).drew, hhW.ext (Ext.drew (Ext.refl _))⟩
        have hbd : Bel D wW wW.drew := (Bel.refl D wW).drew
        have hFg2 : g ≠ F := fun e => hFg e.symm
        have hOAd := hbd.own hOA (fun g hg e => by have := (hOA.lt g hg).1; omega)
        go_region_held3 (fun w' => w'.cell? ⟨F, 0, none⟩ = some (.int .i64 f.pl) ∧ w'.cell? ⟨F, 1, none⟩ = some (.int .i64 f.mi) ∧ w'.cell? ⟨F, 2, none⟩ = some (.slice s.a1 f.tr.length s.c1) ∧ w'.cell? ⟨F, 3, none⟩ = some (.slice s.a2 f.bl.length s.c2) ∧ w'.cell? ⟨F, 4, none⟩ = some (.slice (some ⟨g, 0, none⟩) f.ct.length s.c3))
          (first | exact FX.out _ ⟨hq0, hq1⟩ | exact FX.out _ ⟨hbW', hhW⟩ | exact FX.out _ ⟨hbT', hhT⟩ | (simp [go_sem, *]))
          (first
            | (go_at_call 63; refine (KT.out la _ _ _ hRA hOAd ⟨hq0, hq1⟩).mono ?_; rintro e wT ⟨rs, AT, cT, BT, rfl, hbT, hhT, hTR, hBT, hoT⟩; have hbT' := hq0.trans hbT; have GT := G0.bel hbT' hhT; obtain ⟨⟨u1, p1⟩, fz⟩ := GT.rpOne ega HCA.out; have f1 := fz 1))
        have hOT := hbT.own hOAd (fun g hg e => by have := (hOAd.lt g hg).1; omega)
        obtain ⟨g1, ea1, GA, kA, -, -, -⟩ := GT.setRp HCA.out (own_lower hoT (by have := hq0.size; have := hh3.lt; omega))
        obtain rfl : g = g1 := by rw [ega] at ea1; injection ea1 with ea1; injection ea1
        rw [with_one HCT.out] at GA
        go_wp2_with fail
        go_meet
        exact ⟨rs, _, GA, HMF.out.one_ HCT.out hRA hTR, kA (by decide) hOT⟩
      case rest =>
        clear G0 HMF HLO KT FX HGV hh3 HCA HCT hct0 hbW' hhW hRA hOA hFg
        obtain ⟨rs, xs', G, H1, hOA⟩ := hcut
        obtain ⟨w4, hw4⟩ : ∃ w4 : World, w4 = wc := ⟨_, rfl⟩
        subst hw4
        have HE := hid ega
        have H1 := hid H1
        clear ega
        obtain ⟨xa0, hxa0⟩ := get_of_lt la 0 (by have := H1.out.real.len; omega)
        obtain ⟨bA, oA, eA, -⟩ := Ints.at_ (Rd.of_own hOA) hxa0
        subst eA
        clear hxa0
        have HSZ := hid (ok_sized H1.out.ok)
        have HEX := hid G.ext
        have hmi : 0 ≤ f.mi ∧ f.mi ≤ 8 := H1.out.ok.mi
        have hFlt := G.lt
        have FX4 : Hid (∀ w', Ext w4 w' → w'.cell? ⟨F, 0, none⟩ = some (.int .i64 f.pl) ∧ w'.cell? ⟨F, 1, none⟩ = some (.int .i64 f.mi) ∧ w'.cell? ⟨F, 2, none⟩ = some (.slice s.a1 f.tr.length s.c1) ∧ w'.cell? ⟨F, 3, none⟩ = some (.slice s.a2 f.bl.length s.c2) ∧ w'.cell? ⟨F, 4, none⟩ = some (.slice (some ⟨g, 0, none⟩) 1 s.c3)) := fun w' h => (G.out h).cells1 HE.out
        have HGV : Hid (∀ w', Ext w4 w' → OwnG w' (.agg #[.int .i64 f.pl, .int .i64 f.mi, .slice s.a1 f.tr.length s.c1, .slice s.a2 f.bl.length s.c2, .slice (some ⟨g, 0, none⟩) 1 s.c3]) (oneC f st rs)) := fun w' h => (G.out h).g1 HE.out
        have HOA := hid hOA
        obtain ⟨V, hV⟩ : ∃ N, stillV (oneC f st rs) 0 = N := ⟨_, rfl⟩
        obtain ⟨N, hN⟩ : ∃ N, countV (oneC f st rs) 0 = N := ⟨_, rfl⟩
        obtain ⟨z1, z2⟩ := one_cart (c := ⟨st, rs⟩) H1.out.check rfl
        have hsE : stillE (oneC f st rs) 0 = 0 := by unfold stillE; rw [if_neg (fun x => x z1), z2, H1.out.found]; rfl
        have hsV : Hid (V = stillM (farM (oneC f st rs)) (oneC f st rs) ⟨st, rs⟩) := by unfold Hid; rw [← hV]; unfold stillV; rw [if_pos hsE, z2]
        have hcV : Hid (N = countM (farM (oneC f st rs)) (oneC f st rs) ⟨st, rs⟩ allF) := by unfold Hid; rw [← hN]; unfold countV; rw [if_pos z1, z2]
        have hv0 : ¬ V < 0 := by rw [hsV.out]; exact Int.not_lt.2 (still_nn (oneC f st rs) ⟨st, rs⟩)
        have hv1 : ¬ f.mi < V := by
          rw [hsV.out]
          refine Int.not_lt.2 (Int.le_trans (still_top (oneC f st rs) ⟨st, rs⟩) ?_)
          show ((f.mi.toNat : Nat) : Int) ≤ f.mi
          rw [Int.toNat_of_nonneg hmi.1]; exact Int.le_refl _
        have HST : Hid (∀ l, fitsM (farM (oneC f st rs)) (oneC f st rs) ⟨st, rs⟩ l = true → staysTo l f.mi.toNat ≤ V) := fun l hl => by
          rw [hsV.out]; have q := stays_le (f := oneC f st rs) H1.out.ok H1.out.mem hl; exact q
        have HMC : Hid (∀ ms : List (List Int), ms.Nodup → (∀ l ∈ ms, fitsM (farM (oneC f st rs)) (oneC f st rs) ⟨st, rs⟩ l = true) → (ms.length : Int) ≤ N) := fun ms h1 h2 => by
          rw [hcV.out]; exact met_count (f := oneC f st rs) H1.out.ok H1.out.mem h1 h2
        have S1 := still_any _ (oneC f st rs) 0 w4 (HGV.out w4 (Ext.refl _)).fg HSZ.out
        have S2 := hid (fun w' (h : Ext w4 w') => countx_any _ (oneC f st rs) 0 w' (HGV.out w' h).fg HSZ.out)
        unfold StillPost at S1
        rw [hV, hsE] at S1
        rw [hN, z1] at S2
        have S1 := hid S1
        clear hV hN z1 z2 hsE hsV hcV hOA
        obtain ⟨c0, c1, c2, c3, c4⟩ := FX4.out w4 (Ext.refl _)
        go_wp2_with fail
        clear c0 c1 c2 c3 c4
        refine S1.out.mono ?_
        clear S1
        rintro e w5 ⟨rfl, h5⟩
        obtain ⟨c0, c1, c2, c3, c4⟩ := FX4.out w5 h5
        go_wp2_with fail
        clear c0 c1 c2 c3 c4
        refine (S2.out w5 h5).mono ?_
        clear S2
        rintro e w6 ⟨rfl, h6'⟩
        have h6 := h5.trans h6'
        clear h5 h6'
        obtain ⟨c0, c1, c2, c3, c4⟩ := FX4.out w6 h6
        go_wp2_with fail
        clear c0 c1 c2 c3 c4
        refine (HPQ.out w6 (HEX.out.trans h6)).mono ?_
        clear HPQ
        rintro e w7 ⟨D2, rfl, hD2, h7', hh7⟩
        have h47 := h6.trans h7'
        have hF2 : F ≠ D2 := by have := h6.size; omega
        have hD27 := hh7.lt
        have GO7 := HGV.out w7 h47
        have FXB : Hid (∀ w', (Bel D2 w7 w' ∧ HeapR w' D2) → w'.cell? ⟨F, 0, none⟩ = some (.int .i64 f.pl) ∧ w'.cell? ⟨F, 1, none⟩ = some (.int .i64 f.mi) ∧ w'.cell? ⟨F, 2, none⟩ = some (.slice s.a1 f.tr.length s.c1) ∧ w'.cell? ⟨F, 3, none⟩ = some (.slice s.a2 f.bl.length s.c2) ∧ w'.cell? ⟨F, 4, none⟩ = some (.slice (some ⟨g, 0, none⟩) 1 s.c3)) := fun w' h => by
          obtain ⟨q0, q1, q2, q3, q4⟩ := FX4.out w7 h47
          exact ⟨h.1.cell q0 hF2, h.1.cell q1 hF2, h.1.cell q2 hF2, h.1.cell q3 hF2, h.1.cell q4 hF2⟩
        have HGB : Hid (∀ w', (Bel D2 w7 w' ∧ HeapR w' D2) → OwnG w' (.agg #[.int .i64 f.pl, .int .i64 f.mi, .slice s.a1 f.tr.length s.c1, .slice s.a2 f.bl.length s.c2, .slice (some ⟨g, 0, none⟩) 1 s.c3]) (oneC f st rs)) := fun w' h => GO7.bel hh7 h.1
        have HRW : Hid (∀ w', (Bel D2 w7 w' ∧ HeapR w' D2) → w'.ownsRow 0 3 1 (.slice (some ⟨bA, oA, none⟩) la.length qW) la.length (la.map (.int .i64))) := fun w' h => Deal_own hh7 (own_lower (own_below HOA.out h47) (Nat.zero_le _)) h.1
        have HEN : Hid (∀ w', (Bel D2 w7 w' ∧ HeapR w' D2) → Ext w w') := fun w' h => (HEX.out.trans h47).then_bel (by have := HEX.out.size; have := h6.size; omega) h.1
        have KW2 : Hid (∀ w', (Bel D2 w7 w' ∧ HeapR w' D2) → Calls Tryz.prog 62 #[.pointer (some ⟨D2, 0, none⟩), .agg #[.int .i64 f.pl, .int .i64 f.mi, .slice s.a1 f.tr.length s.c1, .slice s.a2 f.bl.length s.c2, .slice (some ⟨g, 0, none⟩) 1 s.c3], .int .i64 0] w' fun e w2 => ∃ l A q, e = .returned (.slice A l.length q) ∧ Bel D2 w' w2 ∧ HeapR w2 D2 ∧ RealW (oneC f st rs) ⟨st, rs⟩ l ∧ w2.ownsRow 0 3 1 (.slice A l.length q) l.length (l.map (.int .i64))) := fun w' h => by
          refine (walked_any D2 _ (oneC f st rs) 0 ⟨st, rs⟩ w' h.2 (HGB.out w' h) H1.out.ok rfl).mono ?_
          rintro e w2 ⟨l, A, q, B, rfl, hb, hh, hr, hB, ho⟩
          exact ⟨l, A, q, rfl, hb, hh, hr, own_lower ho (Nat.zero_le _)⟩
        have KF : Hid (∀ (l : List Int) (A : Option Addr) (q : Nat) (w' : World), (Bel D2 w7 w' ∧ HeapR w' D2) → RealW (oneC f st rs) ⟨st, rs⟩ l → w'.ownsRow 0 3 1 (.slice A l.length q) l.length (l.map (.int .i64)) → Calls Tryz.prog 70 #[.agg #[.int .i64 f.pl, .int .i64 f.mi, .slice s.a1 f.tr.length s.c1, .slice s.a2 f.bl.length s.c2, .slice (some ⟨g, 0, none⟩) 1 s.c3], .int .i64 0, .slice A l.length q] w' fun e w2 => e = .returned (.bool (fitsM (farM (oneC f st rs)) (oneC f st rs) ⟨st, rs⟩ l)) ∧ Ext w' w2) := fun l A q w' h hr ho => by
          rw [real_iff H1.out.ok hr]
          exact lfits_any _ (oneC f st rs) 0 ⟨st, rs⟩ A q l w' (HGB.out w' h).fg H1.out.ok rfl (Rd.of_own ho) hr.wl
        have HM0 : MetR w7.heap.size w7 (.slice none 0 0) [] := MetR.nil w7
        have HH7 := hid hh7
        clear GO7 h7' hD2 HGV FX4 hF2 hFlt h47 h6 HOA hh7
        go_wp2
        go_loopw [16, 104] (fun s16 i104 wr => ∃ (k : Nat) (ms : List (List Int)), k ≤ 8 ∧ i104 = .int .i64 (k : Int) ∧ (Bel D2 w7 wr ∧ HeapR wr D2) ∧ MetR w7.heap.size wr s16 ms ∧ ms.Nodup ∧ (∀ l ∈ ms, fitsM (farM (oneC f st rs)) (oneC f st rs) ⟨st, rs⟩ l = true) ∧ ms.length ≤ k) (fun _ i _ => 8 - (intOf i).toNat)
        case atStart => exact ⟨0, [], by omega, rfl, ⟨Bel.refl _ _, HH7.out⟩, HM0, List.nodup_nil, (fun l h => by cases h), Nat.le_refl _⟩
        case round =>
          obtain ⟨k, ms, hk, rfl, hsm, hmet, hnd, hfit, hmk⟩ := hrel
          by_cases hlt : k < 8
          · have hlt' : (k : Int) < 8 := by omega
            have hk1 : k + 1 ≤ 8 := hlt
            obtain ⟨Am, cm, em, -⟩ := hmet.rows
            subst em
            have HSM := hid hsm
            have HMT := hid hmet
            have HND := hid hnd
            have HFT := hid hfit
            clear hmet hnd hfit hsm
            obtain ⟨X, hX⟩ : ∃ X, wr.heap.size = X := ⟨_, rfl⟩
            obtain ⟨wa, hwa⟩ : ∃ wa, wr.alloc (.cells #[.slice (some ⟨bA, oA, none⟩) la.length qW] 42) = wa := ⟨_, rfl⟩
            have ha : Ext wr wa := by rw [← hwa]; exact Ext.alloc (Ext.refl _) _
            have hxa : wa.heap[X]? = some (.cells #[.slice (some ⟨bA, oA, none⟩) la.length qW] 42 (0, 0)) := by rw [← hwa, ← hX]; exact heap_alloc_new wr _
            have hsa : Bel D2 w7 wa ∧ HeapR wa D2 := ⟨HSM.out.1.trans ha.bel, HSM.out.2.ext ha⟩
            have hDX : D2 < X := by have := HSM.out.1.size; omega
            have hXr : wr.heap.size ≤ X := by omega
            have HXA := hid hxa
            have HWA := hid hwa
            have HX := hid hX
            clear hwa hX hxa
            go_upto_if 109 with fail
            rw [HWA.out, HX.out]
            clear HWA HX
            go_cut [] (fun wx => ∃ l A q, RealW (oneC f st rs) ⟨st, rs⟩ l ∧ wx.ownsRow 0 3 1 (.slice A l.length q) l.length (l.map (.int .i64)) ∧ wx.cell? ⟨X, 0, none⟩ = some (.slice A l.length q) ∧ Bel D2 wr wx ∧ HeapR wx D2)
            case first =>
              by_cases hk0 : 0 < k
              · obtain ⟨c0, c1, c2, c3, c4⟩ := FXB.out wa hsa
                have hkI : (0 : Int) < (k : Int) := by omega
                go_wp2_with fail
                clear c0 c1 c2 c3 c4
                refine (KW2.out wa hsa).mono ?_
                rintro e wb ⟨l, A', q, rfl, hb, hh, hr, ho⟩
                have hxb := hb.heap HXA.out (by omega)
                have xc : wb.cell? ⟨X, 0, none⟩ = some (.slice (some ⟨bA, oA, none⟩) la.length qW) := by rw [cell_of_row wb X 0 _ _ _ hxb]; rfl
                have xf : wb.frozen? ⟨X, 0, none⟩ = false := blk_free hxb
                have hS : BelS (fun n => n = X) wb (wb.setCell ⟨X, 0, none⟩ (.slice A' l.length q)) := BelS.setCell (S := fun n => n = X) (BelS.refl _ wb) _ _ rfl
                have ho2 := hS.own ho (fun g hg e => by subst e; exact own_ne ho hxb (by decide) hg)
                have hob := Bel.setNew (ha.bel.trans hb : Bel D2 wr wb) ⟨X, 0, none⟩ (.slice A' l.length q) hXr
                have hh2 := hh.belS hS (fun n hn e => by omega)
                have xc2 : (wb.setCell ⟨X, 0, none⟩ (.slice A' l.length q)).cell? ⟨X, 0, none⟩ = some (.slice A' l.length q) := by rw [cell_of_row _ X 0 _ _ _ (heap_set hxb _)]; rfl
                go_wp2_with fail
                go_meet
                exact ⟨l, A', q, hr, ho2, xc2, hob, hh2⟩
              · have hkI : ¬ (0 : Int) < (k : Int) := by omega
                have hR2 := HRW.out wa hsa
                have xc2 : wa.cell? ⟨X, 0, none⟩ = some (.slice (some ⟨bA, oA, none⟩) la.length qW) := by rw [cell_of_row wa X 0 _ _ _ HXA.out]; rfl
                go_wp2_with fail
                go_meet
                exact ⟨la, _, qW, H1.out.real, hR2, xc2, ha.bel, hsa.2⟩
            case rest =>
              obtain ⟨l, A', q, hr, ho, xc, hbx, hhx⟩ := hcut
              obtain ⟨wb, hwb⟩ : ∃ wb : World, wb = wc := ⟨_, rfl⟩
              subst hwb
              have hsb : Bel D2 w7 wb ∧ HeapR wb D2 := ⟨HSM.out.1.trans hbx, hhx⟩
              obtain ⟨x0, hx0⟩ := get_of_lt l 0 (by have := hr.len; omega)
              obtain ⟨b3, o3, e3, -⟩ := Ints.at_ (Rd.of_own ho) hx0
              subst e3
              have hcap := own_cap ho
              obtain ⟨BF, hBF⟩ : ∃ BF, fitsM (farM (oneC f st rs)) (oneC f st rs) ⟨st, rs⟩ l = BF := ⟨_, rfl⟩
              have K27 := KF.out l _ q wb hsb hr ho
              rw [hBF] at K27
              have HBF := hid hBF
              have HO := hid ho
              have HR := hid hr
              have HK27 := hid K27
              clear K27 hBF hx0 ho hr hsa ha
              obtain ⟨c0, c1, c2, c3, c4⟩ := FXB.out wb hsb
              go_wp2_with fail
              clear c0 c1 c2 c3 c4
              refine HK27.out.mono ?_
              clear HK27
              rintro e wd ⟨rfl, hxd⟩
              have hsd : Bel D2 w7 wd ∧ HeapR wd D2 := ⟨hsb.1.trans hxd.bel, hsb.2.ext hxd⟩
              have hbd : Bel D2 wr wd := hbx.trans hxd.bel
              have hmd := HMT.out.bel HSM.out.2 hD27 hbd
              have xcd := hxd.cell xc
              have HOD := hid (own_below HO.out hxd)
              cases BF
              case false =>
                have HMD := hid hmd
                have HSD := hid hsd
                clear hmd hsd xc xcd hsb hcap
                have hmk1 : ms.length ≤ k + 1 := by omega
                go_wp2
                go_roundw
                case rel => exact ⟨k + 1, ms, hk1, by go_num, HSD.out, HMD.out, HND.out, HFT.out, hmk1⟩
                case measure => simp [intOf]; omega
              case true =>
                have hln : l.length = f.mi.toNat + 1 := HR.out.len
                have HLN := hid hln
                clear hln
                go_upto_region 29 with fail
                go_cut [119, 120] (fun s119 s120 wx => s119 = .int .i64 (f.mi.toNat : Int) ∧ s120 = .int .i64 0 ∧ wd = wx)
                case first =>
                  have hln := HLN.out
                  have h1l : (1 : Int) ≤ (l.length : Int) := by omega
                  have h1n : 1 ≤ l.length := by omega
                  have HL2 : Hid (l.length - 1 = f.mi.toNat) := by unfold Hid; omega
                  clear hln
                  by_cases hq1 : q = 1
                  · have hq2 : q - 1 = 0 := by omega
                    go_wp2_with fail
                    go_meet
                    exact ⟨by rw [HL2.out], rfl, (by first | rfl | trivial)⟩
                  · have hq2 : ¬ q = 1 := hq1
                    have hq3 : ¬ q - 1 = 0 := by omega
                    have hq4 : (1 : Int) ≤ (q : Int) := by omega
                    have hq5 : 1 ≤ q := by omega
                    go_wp2_with fail
                    go_meet
                    exact ⟨by rw [HL2.out], rfl, (by first | rfl | trivial)⟩
                case rest =>
                  obtain ⟨rfl, rfl, hwd⟩ := hcut
                  subst hwd
                  have HMD := hid hmd
                  have HSD := hid hsd
                  have HXC := hid xcd
                  clear hmd hsd xcd xc hsb hbx hhx hxd hbd HO HXA HSM HMT
                  go_wp2
                  go_loopw [19, 120] (fun s19 i120 wr => ∃ m : Nat, m ≤ f.mi.toNat ∧ i120 = .int .i64 (m : Int) ∧ s19 = .int .i64 (staysTo l m) ∧ Ext wd wr) (fun _ i _ => f.mi.toNat - (intOf i).toNat)
                  case atStart => exact ⟨0, Nat.zero_le _, rfl, rfl, Ext.refl _⟩
                  case round =>
                    obtain ⟨m, hm, rfl, rfl, hxr⟩ := hrel
                    by_cases hlm : m < f.mi.toNat
                    · have hlmI : (m : Int) < (f.mi.toNat : Int) := by omega
                      obtain ⟨xa, hxa⟩ := get_of_lt l m (by have := HLN.out; omega)
                      obtain ⟨xb, hxb⟩ := get_of_lt l (m + 1) (by have := HLN.out; omega)
                      have hOr : Ints wr (some ⟨b3, o3, none⟩) l := Rd.of_own (own_below HOD.out hxr)
                      obtain ⟨v0, v1⟩ : wr.cell? ⟨b3, o3 + m, none⟩ = some (.int .i64 xa) ∧ wr.cell? ⟨b3, o3 + (m + 1), none⟩ = some (.int .i64 xb) := by
                        obtain ⟨b1, o1, e1, k1⟩ := Ints.at_ hOr hxa
                        obtain ⟨b2, o2, e2, k2⟩ := Ints.at_ hOr hxb
                        cases e1
                        cases e2
                        exact ⟨k1, k2⟩
                      have hi1 : (m : Int) < (l.length : Int) := by have := HLN.out; omega
                      have hi2 : (m : Int) + 1 < (l.length : Int) := by have := HLN.out; omega
                      have hi3 : m < l.length := by omega
                      have hi4 : m + 1 < l.length := by omega
                      have xcr := hxr.cell HXC.out
                      have hS0 := stays_le_self l m
                      have HSN : Hid (staysTo l (m + 1) = staysTo l m + if xa = xb then 1 else 0) := by
                        unfold Hid
                        show staysTo l m + (if l.getD m 0 = l.getD (m + 1) 0 then 1 else 0) = _
                        rw [List.getD_eq_getElem?_getD, List.getD_eq_getElem?_getD, hxa, hxb]
                        rfl
                      obtain ⟨T, hT⟩ : ∃ T, staysTo l m = T := ⟨_, rfl⟩
                      rw [hT] at hS0 HSN ⊢
                      have hmi8 : (m : Int) ≤ 8 := by omega
                      have hm1 : m + 1 ≤ f.mi.toNat := hlm
                      clear hxa hxb hOr hT
                      by_cases hxx : xa = xb
                      · have bx : (xa == xb) = true := by simpa using hxx
                        rw [if_pos hxx] at HSN
                        clear hxx
                        go_wp2
                        go_quiet (fail)
                        go_wp2
                        go_roundw
                        case rel => exact ⟨m + 1, hm1, by go_num, by rw [HSN.out], Ext.drewN hxr _⟩
                        case measure => simp [intOf]; omega
                      · have bx : (xa == xb) = false := by simpa using hxx
                        rw [if_neg hxx, Int.add_zero] at HSN
                        clear hxx
                        go_wp2
                        go_quiet (fail)
                        go_wp2
                        go_roundw
                        case rel => exact ⟨m + 1, hm1, by go_num, by rw [HSN.out], Ext.drewN hxr _⟩
                        case measure => simp [intOf]; omega
                    · obtain rfl : m = f.mi.toNat := by omega
                      have hst := HST.out l HBF.out
                      obtain ⟨T, hT⟩ : ∃ T, staysTo l f.mi.toNat = T := ⟨_, rfl⟩
                      rw [hT] at hst ⊢
                      have hvT : ¬ V < T := Int.not_lt.2 hst
                      have hsr : Bel D2 w7 wr ∧ HeapR wr D2 := ⟨HSD.out.1.trans hxr.bel, HSD.out.2.ext hxr⟩
                      have hmr := HMD.out.bel HSD.out.2 hD27 hxr.bel
                      have hor := own_below HOD.out hxr
                      have xcr := hxr.cell HXC.out
                      have hl9 : l.length ≤ 1000 := by have := HLN.out; omega
                      have hIR : IntRows wr Am ms := by
                        obtain ⟨A', c', e, hI⟩ := hmr.rows
                        injection e with e1 e2 e3
                        subst e1
                        exact hI
                      have KC := containsFunc_rows Am cm ms _ (fun x => x.length ≤ 1000) (fun x => x == l) wr hIR (by omega) (fun x hx => by
                        have := (fits_pl (HFT.out x hx)).1
                        have e2 : (oneC f st rs).mi = f.mi := rfl
                        rw [e2] at this
                        omega) (lstl2_fn wr X (some ⟨b3, o3, none⟩) q l (by omega) xcr (Rd.of_own hor))
                      obtain ⟨BM, hBM⟩ : ∃ BM, (ms.any fun x => x == l) = BM := ⟨_, rfl⟩
                      rw [hBM] at KC
                      have HBM := hid hBM
                      have HKC := hid KC
                      have HMR := hid hmr
                      have HSR := hid hsr
                      have HOR := hid hor
                      have HXR := hid xcr
                      clear KC hBM hIR hmr hsr hor hT hst HST HMD HSD HOD HXC
                      go_wp2_with fail
                      refine HKC.out.mono ?_
                      clear HKC
                      rintro e we ⟨rfl, hxe⟩
                      have hse : Bel D2 w7 we ∧ HeapR we D2 := ⟨HSR.out.1.trans hxe.bel, HSR.out.2.ext hxe⟩
                      have hme := HMR.out.bel HSR.out.2 hD27 hxe.bel
                      have hoe := own_below HOR.out hxe
                      have xce := hxe.cell HXR.out
                      clear xcr HXR HOR HMR HSR
                      cases BM
                      case true =>
                        have HSE := hid hse
                        have HME := hid hme
                        have hmk1 : ms.length ≤ k + 1 := by omega
                        clear hse hme hoe
                        go_wp2
                        go_roundw
                        case rel => exact ⟨k + 1, ms, hk1, by go_num, HSE.out, HME.out, HND.out, HFT.out, hmk1⟩
                        case measure => simp [intOf]; omega
                      case false =>
                        obtain ⟨A', c', xs, Bm, e, hown, hrows, hBm⟩ := hme
                        injection e with e1 e2 e3
                        subst e1
                        subst e3
                        obtain ⟨W5, hW5⟩ : ∃ W5, we.alloc (.cells #[.slice (some ⟨b3, o3, none⟩) l.length q] 42) = W5 := ⟨_, rfl⟩
                        have hx5 : Ext we W5 := by rw [← hW5]; exact Ext.alloc (Ext.refl _) _
                        have hrd5 : Rd W5 (some ⟨we.heap.size, 0, none⟩) [.slice (some ⟨b3, o3, none⟩) l.length q] := by rw [← hW5]; exact rd_blk (heap_alloc_new we _)
                        have own5 := own_below hown hx5
                        have rows5 := hrows.ext hx5
                        have lo5 := own_below hoe hx5
                        have hs5 : Bel D2 w7 W5 ∧ HeapR W5 D2 := ⟨hse.1.trans hx5.bel, hse.2.ext hx5⟩
                        have hb5 : Bm ≤ W5.heap.size := Nat.le_trans hBm.2 hx5.size
                        have HND2 : Hid ((ms ++ [l]).Nodup ∧ ∀ x ∈ ms ++ [l], fitsM (farM (oneC f st rs)) (oneC f st rs) ⟨st, rs⟩ x = true) := by
                          have hb := HBM.out
                          rw [List.any_eq_false] at hb
                          refine ⟨List.nodup_append.2 ⟨HND.out, List.nodup_cons.2 ⟨by simp, List.nodup_nil⟩, fun x hx y hy e => ?_⟩, fun x hx => ?_⟩
                          · simp only [List.mem_singleton] at hy
                            subst hy
                            subst e
                            exact hb x hx (by simp)
                          · rcases List.mem_append.1 hx with hx | hx
                            · exact HFT.out x hx
                            · simp only [List.mem_singleton] at hx; subst hx; exact HBF.out
                        have HOWN := hid own5
                        have HRD := hid hrd5
                        have HROWS := hid rows5
                        have HLO := hid lo5
                        have HS5 := hid hs5
                        clear hown hrows hoe hse own5 hrd5 rows5 lo5 hs5 hx5
                        go_wp2_with (at_builtin; (try rw [hW5]); refine wpList_append_rd2 _ rfl _ _ 35 rfl elem_ints Bm (.slice Am ms.length cm) ms.length xs rfl HOWN.out (some ⟨we.heap.size, 0, none⟩) 1 1 [.slice (some ⟨b3, o3, none⟩) l.length q] rfl rfl HRD.out (by intro u hu; simp at hu; subst hu; rfl) (by omega) hb5 ?_)
                        intro A6 c6 W6 own6 hbel6 hgr6 hloc6
                        have hS6 : BelS (fun g => (Value.slice Am ms.length cm).ownBlock = some g) W5 W6 := (BelS.refl _ W5).grown hgr6 (fun g e => e)
                        have rows6 := (HROWS.out.keep hS6 (fun g hg => by obtain ⟨cur, hh⟩ := own_blk HOWN.out hg; exact ⟨cur, _, hh, by decide⟩)).snoc (l := l) (hS6.own HLO.out (fun g hg hs => by obtain ⟨cur, hh⟩ := own_blk HOWN.out hs; exact own_ne HLO.out hh (by decide) hg))
                        have hs6 : Bel D2 w7 W6 ∧ HeapR W6 D2 := ⟨HS5.out.1.then_ hS6 (fun i hi he => by have := (HOWN.out.lt i he).1; omega), HS5.out.2.belS hS6 (fun i hi he => by have := (HOWN.out.lt i he).1; omega)⟩
                        have hb6 : Bm ≤ W6.heap.size := Nat.le_trans hb5 hS6.size
                        have HMN : Hid (MetR w7.heap.size W6 (.slice A6 (ms.length + 1) c6) (ms ++ [l])) := by
                          have e : (ms ++ [l]).length = ms.length + 1 := by simp
                          refine ⟨A6, c6, xs ++ [.slice (some ⟨b3, o3, none⟩) l.length q], Bm, by rw [e], ?_, rows6, hBm.1, hb6⟩
                          rw [e]; exact own6
                        have HS6 := hid hs6
                        have hmk1 : (ms ++ [l]).length ≤ k + 1 := by simp; omega
                        clear own6 hbel6 hgr6 hloc6 hS6 rows6 hs6 HOWN HRD HROWS HLO HS5 hW5
                        go_wp2
                        go_roundw
                        case rel => exact ⟨k + 1, ms ++ [l], hk1, by go_num, HS6.out, HMN.out, HND2.out.1, HND2.out.2, hmk1⟩
                        case measure => simp [intOf]; omega
          · obtain ⟨Am, cm, em, -⟩ := hmet.rows
            subst em
            have hle := HMC.out ms hnd hfit
            have hend := HEN.out wr hsm
            have hlt' : ¬ (k : Int) < 8 := by omega
            clear hmet hnd hfit hsm
            go_wp2_with fail
            refine (awake_any wr).mono ?_
            rintro e w18 ⟨rfl, h18⟩
            have hfin := hend.trans h18
            go_wp2
            go_ret
            exact ⟨rfl, hfin⟩
end Go.Proofs.YtpbpcplboikpcaaGreat
