/- The walk of FogMore. Printed by my gen_fmore.py. -/
import Derived.Test.YtpbpcplboikpcaaGreatFGSt
import Derived.Test.YtpbpcplboikpcaaGreatFMade
import Derived.Test.YtpbpcplboikpcaaGreatFTold
import Derived.Test.YtpbpcplboikpcaaGreatFTripP
import Derived.Test.YtpbpcplboikpcaaGreatG5
import Derived.Deep.DeepCutAuto
import Derived.Deep.CutBlock
import Derived.Test.YtpbpcplboikpcaaGreatFMorQ
import Derived.Test.YtpbpcplboikpcaaGreatFWith
import Derived.Deep.RegionHeld3
namespace Go.Proofs.YtpbpcplboikpcaaGreat
open Go Go.RowKit Go.Shelf
set_option linter.unusedVariables false
set_option linter.unusedSimpArgs false

theorem WithF.ext {w w' : World} {B : Nat} {v : Value} {f : Fg} (h : WithF w B v f) (hx : Ext w w') : WithF w' B v f := by
  obtain ⟨a1, q1, a2, q2, D, kd, xs, e, h1, h2, h3, h4⟩ := h
  exact ⟨a1, q1, a2, q2, D, kd, xs, e, own_below h1 hx, own_below h2 hx, own_below h3 hx, h4.ext hx⟩
/-- A store into an older block. -/
theorem WithF.older {w w' : World} {B R : Nat} {v : Value} {f : Fg} (h : WithF w B v f) (hb : BelS (fun k => k = R) w w') (hR : R < B) : WithF w' B v f := by
  obtain ⟨a1, q1, a2, q2, D, kd, xs, e, h1, h2, h3, h4⟩ := h
  have hk : ∀ {e : TypeId} {size n : Nat} {v : Value} {ys : List Value}, w.ownsRow B e size v n ys → w'.ownsRow B e size v n ys := fun ho => hb.own ho (fun g hg e => by have := (ho.lt g hg).1; omega)
  exact ⟨a1, q1, a2, q2, D, kd, xs, e, hk h1, hk h2, hk h3, OCt.base hk h4⟩
theorem WithF.one {w : World} {B : Nat} {v : Value} {f : Fg} {st : List Int} {rs : List Rp} (h : WithF w B v (oneC f st rs)) : ∃ b1 q1 b2 q2 b3 q3, v = .agg #[.int .i64 f.pl, .int .i64 f.mi, .slice b1 f.tr.length q1, .slice b2 f.bl.length q2, .slice b3 1 q3] := by
  obtain ⟨a1, q1, a2, q2, D, kd, xs, e, -⟩ := h
  exact ⟨a1, q1, a2, q2, D, kd, e⟩
theorem lmor1_fn (w : World) (Bx : Nat) (A : Option Addr) (k : Nat) (l : List Int) (hl : l.length ≤ 9223372036854775807) (hc : w.cell? ⟨Bx, 0, none⟩ = some (.slice A l.length k)) (hI : Ints w A l) :
    FnP Tryz.prog (.func (.func 81) #[] #[.pointer (some ⟨Bx, 0, none⟩)]) w IntR anyx (fun x => !memI x l) := by
  refine ⟨_, _, _, rfl, enters_of Tryz.func81 (by kernel_rfl) rfl, fun x v W hs hW hR => ?_⟩
  obtain rfl : v = .int .i64 x := hR
  have h2 := hW.cell hc
  have hK := hid (containsI_any x A k l W (hI.kc hW) hl)
  clear hI hW hs hc
  show Calls _ _ #[_, _] _ _
  go_enter Tryz.func81, Tryz.ntmps81
  go_wp2_with fail
  refine hK.out.mono ?_
  rintro e w1 ⟨rfl, rfl⟩
  go_wp2
  go_ret
  exact ⟨rfl, Ext.refl _⟩
set_option maxRecDepth 100000 in
set_option maxHeartbeats 16000000 in
theorem morw_any (A : Option Addr) (l : List Int) (cap : Nat) (tu : Int) (w : World) (hA : Bytes w A l) (hl : ∀ x ∈ l, 0 ≤ x ∧ x ≤ 255) (hlt : ∀ a, A = some a → l = [] ∨ a.block < w.heap.size) (hn : l.length ≤ 9223372036854775807) (htu : 0 ≤ tu ∧ tu ≤ 255) :
    Calls Tryz.prog 13 #[.slice A l.length cap, .int .u8 tu] w fun e w' => e = .returned (.bool true) ∧ Ext w w' := by
  have K1 := hid (pile_any A l cap w hA hl hlt hn)
  clear hA hl hlt hn
  go_enter Tryz.func13, Tryz.ntmps13
  go_wp2_with fail
  refine K1.out.mono ?_
  clear K1
  rintro e w1 ⟨D, rfl, hD, hx1, hh1⟩
  have hDw := hh1.lt
  go_wp2_with fail
  refine (made_any D 7 6 1 w1 hh1 (by decide) (by decide) (by decide) (by decide) (by decide)).mono ?_
  rintro e w2 ⟨v, f, rfl, hMF, hLO, ⟨B, hB, hg⟩, hb2, hh2⟩
  have hx2 : Ext w w2 := hx1.then_bel hD hb2
  obtain ⟨s, xs, rfl, G0⟩ := GSt.start hg hh2 hx2 (by omega) hD
  obtain ⟨w3, hw3⟩ : ∃ w3, w2.alloc (.cells (mcells f s) 28) = w3 := ⟨_, rfl⟩
  obtain ⟨F, hF⟩ : ∃ F, w2.heap.size = F := ⟨_, rfl⟩
  rw [hw3, hF] at G0
  have HMF := hid hMF
  have HLO := hid hLO
  have HW3 := hid hw3
  have HF := hid hF
  unfold mcells at HW3
  clear hg hMF hLO hw3 hF hb2 hh2 hx1 hx2 hh1
  have G0c := G0.cells
  obtain ⟨c0, c1, c2, c3, c4⟩ := G0c
  unfold Ads.val fval
  go_upto_region 3 with fail
  rw [HW3.out, HF.out]
  clear HW3 HF
  obtain ⟨st, hct⟩ := made_one HMF.out (by decide)
  have HCA : Hid (f.ct[0]? = some ⟨st, []⟩) := by unfold Hid; rw [hct]; rfl
  have HCT := hid hct
  obtain ⟨g, ega, -, -, hFg, -, -⟩ := G0.setRp HCA.out (A := none) (cA := 0) (rs := []) (own_nil _ _ _ _)
  have hh3 := G0.hp
  have hct0 : 0 < f.ct.length := by rw [hct]; simp
  clear hct
  have FX : Hid (∀ w', (Bel D w3 w' ∧ HeapR w' D) → w'.cell? ⟨F, 0, none⟩ = some (.int .i64 f.pl) ∧ w'.cell? ⟨F, 1, none⟩ = some (.int .i64 f.mi) ∧ w'.cell? ⟨F, 2, none⟩ = some (.slice s.a1 f.tr.length s.c1) ∧ w'.cell? ⟨F, 3, none⟩ = some (.slice s.a2 f.bl.length s.c2) ∧ w'.cell? ⟨F, 4, none⟩ = some (.slice (some ⟨g, 0, none⟩) f.ct.length s.c3)) := fun w' h => by
    have q := (G0.bel h.1 h.2).cells
    rw [ega] at q
    exact q
  have HGV : Hid (∀ w', (Bel D w3 w' ∧ HeapR w' D) → OwnG w' (.agg #[.int .i64 f.pl, .int .i64 f.mi, .slice s.a1 f.tr.length s.c1, .slice s.a2 f.bl.length s.c2, .slice (some ⟨g, 0, none⟩) f.ct.length s.c3]) f) := fun w' h => by
    have q := (G0.bel h.1 h.2).g
    unfold Ads.val fval at q
    rw [ega] at q
    exact q
  have KW : Hid (∀ w', (Bel D w3 w' ∧ HeapR w' D) → Calls Tryz.prog 62 #[.pointer (some ⟨D, 0, none⟩), .agg #[.int .i64 f.pl, .int .i64 f.mi, .slice s.a1 f.tr.length s.c1, .slice s.a2 f.bl.length s.c2, .slice (some ⟨g, 0, none⟩) f.ct.length s.c3], .int .i64 0] w' fun e w2 => ∃ l A q, e = .returned (.slice A l.length q) ∧ Bel D w' w2 ∧ HeapR w2 D ∧ RealW f ⟨st, []⟩ l ∧ w2.ownsRow (D + 1) 3 1 (.slice A l.length q) l.length (l.map (.int .i64))) := fun w' h => by
    refine (walked_any D _ f 0 ⟨st, []⟩ w' h.2 (HGV.out w' h) HMF.out.ok HCA.out).mono ?_
    rintro e w2 ⟨l, A, q, B, rfl, hb, hh, hr, hB, ho⟩
    exact ⟨l, A, q, rfl, hb, hh, hr, own_lower ho (by have := h.2.lt; omega)⟩
  have KT : Hid (∀ (l : List Int) (A : Option Addr) (q : Nat) (w' : World), RealW f ⟨st, []⟩ l → w'.ownsRow (D + 1) 3 1 (.slice A l.length q) l.length (l.map (.int .i64)) → (Bel D w3 w' ∧ HeapR w' D) →
      Calls Tryz.prog 63 #[.pointer (some ⟨D, 0, none⟩), .agg #[.int .i64 f.pl, .int .i64 f.mi, .slice s.a1 f.tr.length s.c1, .slice s.a2 f.bl.length s.c2, .slice (some ⟨g, 0, none⟩) f.ct.length s.c3], .slice A l.length q, .int .i64 2] w' (ToldPost D w' f l)) := fun l A q w' hr ho h =>
    told_any D 2 _ f A q l (D + 1) w' h.2 (HGV.out w' h) HMF.out.ok hr.wl ho (by decide)
  go_wp2_with fail
  clear c0 c1 c2 c3 c4
  refine (KW.out _ ⟨Bel.refl D w3, hh3⟩).mono ?_
  rintro e wW ⟨la, AW, qW, rfl, hbW', hhW, hRA, hOA⟩
  clear KW
  obtain ⟨c0, c1, c2, c3, c4⟩ := FX.out wW ⟨hbW', hhW⟩
  go_upto_region 4 with fail
  clear c0 c1 c2 c3 c4
  go_cut [] (fun wx => ∃ rs xs', GSt D F (D + 1) w wx (oneC f st rs) s xs' ∧ OneF 7 6 (oneC f st rs) st rs la ∧ wx.ownsRow (D + 1) 3 1 (.slice AW la.length qW) la.length (la.map (.int .i64)))
  case first =>
    obtain ⟨hq0, hq1⟩ : Bel D w3 wW.drew ∧ HeapR wW.drew D := ⟨hbW'.trans (Bel.refl D wW).drew, hhW.ext (Ext.drew (Ext.refl _))⟩
    have hbd : Bel D wW wW.drew := (Bel.refl D wW).drew
    have hFg2 : g ≠ F := fun e => hFg e.symm
    have hOAd := hbd.own hOA (fun g hg e => by have := (hOA.lt g hg).1; omega)
    go_region_held3 (fun w' => w'.cell? ⟨F, 0, none⟩ = some (.int .i64 f.pl) ∧ w'.cell? ⟨F, 1, none⟩ = some (.int .i64 f.mi) ∧ w'.cell? ⟨F, 2, none⟩ = some (.slice s.a1 f.tr.length s.c1) ∧ w'.cell? ⟨F, 3, none⟩ = some (.slice s.a2 f.bl.length s.c2) ∧ w'.cell? ⟨F, 4, none⟩ = some (.slice (some ⟨g, 0, none⟩) f.ct.length s.c3))
      (first | exact FX.out _ ⟨hq0, hq1⟩ | exact FX.out _ ⟨hbW', hhW⟩ | exact FX.out _ ⟨hbT', hhT⟩ | (simp [go_sem, *]))
      (first
        | (go_at_call 63; refine (KT.out la _ _ _ hRA hOAd ⟨hq0, hq1⟩).mono ?_; rintro e wT ⟨rs, AT, cT, BT, rfl, hbT, hhT, hTR, hBT, hoT⟩; have hbT' := hq0.trans hbT; have GT := G0.bel hbT' hhT; obtain ⟨⟨u1, p1⟩, fz⟩ := GT.rpOne ega HCA.out; have f1 := fz 1))
    have hOT := hbT.own hOAd (fun g hg e => by have := (hOAd.lt g hg).1; omega)
    obtain ⟨g1, ea1, GA, kA, -, -, -⟩ := GT.setRp HCA.out (own_lower hoT (by have := hq0.size; have := hh3.lt; omega))
    obtain rfl : g = g1 := by rw [ega] at ea1; injection ea1 with ea1; injection ea1
    rw [with_one HCT.out] at GA
    go_wp2_with fail
    go_meet
    exact ⟨rs, _, GA, HMF.out.one_ HCT.out hRA hTR, kA (by decide) hOT⟩
  case rest =>
    clear G0 HMF HLO KT FX HGV hh3 HCA HCT hct0 hbW' hhW hRA hOA hFg
    obtain ⟨rs, xs', G, H1, hOA⟩ := hcut
    obtain ⟨w4, hw4⟩ : ∃ w4 : World, w4 = wc := ⟨_, rfl⟩
    subst hw4
    have HE := hid ega
    have H1 := hid H1
    clear ega
    obtain ⟨xa0, hxa0⟩ := get_of_lt la 0 (by have := H1.out.real.len; omega)
    obtain ⟨bA, oA, eA, -⟩ := Ints.at_ (Rd.of_own hOA) hxa0
    subst eA
    clear hxa0
    by_cases hb0 : f.bl.length = 0
    · have bl0 : ((f.bl.length : Int) == 0) = true := by rw [hb0]; rfl
      obtain ⟨c0, c1, c2, c3, c4⟩ := G.cells1 HE.out
      have hfin0 := G.ext
      clear hb0
      go_wp2_with fail
      refine (awake_any w4).mono ?_
      rintro e w16 ⟨rfl, h16⟩
      have hfin := hfin0.trans h16
      go_wp2
      go_ret
      exact ⟨rfl, hfin⟩
    have bl0 : ((f.bl.length : Int) == 0) = false := by simpa using hb0
    obtain ⟨I, hI, hIlt⟩ : ∃ I : Nat, tu.tmod (f.bl.length : Int) = (I : Int) ∧ I < f.bl.length := by
      refine ⟨(tu.tmod (f.bl.length : Int)).toNat, ?_, ?_⟩
      · rw [Int.toNat_of_nonneg]; exact Int.tmod_nonneg _ htu.1
      · have h1 := Int.tmod_lt_of_pos tu (show (0 : Int) < f.bl.length by omega)
        have h2 : 0 ≤ tu.tmod (f.bl.length : Int) := Int.tmod_nonneg _ htu.1
        omega
    obtain ⟨b, hbg⟩ := get_of_lt f.bl I hIlt
    have hbn : ¬ (f.bl.length : Int) = 0 := by omega
    obtain ⟨HD, hHD⟩ : ∃ HD, hearsL2 (farM (oneC f st rs)) (oneC f st rs) la (I : Int) = HD := ⟨_, rfl⟩
    have HSZ := hid (ok_sized H1.out.ok)
    have HEX := hid G.ext
    have FX4 : Hid (∀ w', Ext w4 w' → w'.cell? ⟨F, 0, none⟩ = some (.int .i64 f.pl) ∧ w'.cell? ⟨F, 1, none⟩ = some (.int .i64 f.mi) ∧ w'.cell? ⟨F, 2, none⟩ = some (.slice s.a1 f.tr.length s.c1) ∧ w'.cell? ⟨F, 3, none⟩ = some (.slice s.a2 f.bl.length s.c2) ∧ w'.cell? ⟨F, 4, none⟩ = some (.slice (some ⟨g, 0, none⟩) 1 s.c3)) := fun w' h => (G.out h).cells1 HE.out
    have HGV : Hid (∀ w', Ext w4 w' → OwnG w' (.agg #[.int .i64 f.pl, .int .i64 f.mi, .slice s.a1 f.tr.length s.c1, .slice s.a2 f.bl.length s.c2, .slice (some ⟨g, 0, none⟩) 1 s.c3]) (oneC f st rs)) := fun w' h => (G.out h).g1 HE.out
    have HLA : Hid (∀ w', Ext w4 w' → Ints w' (some ⟨bA, oA, none⟩) la) := fun w' h => (Rd.of_own hOA : Ints w4 (some ⟨bA, oA, none⟩) la).ext h
    obtain ⟨AR, cR, HRP⟩ : ∃ AR cR, Hid (∀ w', Ext w4 w' → w'.cell? ⟨g, 1, none⟩ = some (.slice AR rs.length cR) ∧ Reps w' AR rs) := by
      obtain ⟨g', A1, k1, A2, k2, e1, exs, o1, o2, q0, q1⟩ := G.one rfl
      rw [HE.out] at e1
      injection e1 with e1
      injection e1 with e1
      subst e1
      exact ⟨A2, k2, fun w' h => ⟨h.cell q1, (Rd.of_own o2 : Reps w4 A2 rs).ext h⟩⟩
    have hwl := H1.out.real.wl.at_ (b := b) (H1.out.ok.bl b (mem_of_get hbg)).1
    have KH : Hid (Calls Tryz.prog 79 #[.agg #[.int .i64 f.pl, .int .i64 f.mi, .slice s.a1 f.tr.length s.c1, .slice s.a2 f.bl.length s.c2, .slice (some ⟨g, 0, none⟩) 1 s.c3], .slice (some ⟨bA, oA, none⟩) la.length qW, .int .i64 (I : Int)] w4 fun e w' => e = .returned (.bool HD) ∧ Ext w4 w') := by
      have K := lhears_any _ (oneC f st rs) (some ⟨bA, oA, none⟩) qW la I b w4 (HGV.out w4 (Ext.refl _)).fg H1.out.ok (HLA.out w4 (Ext.refl _)) hbg hwl.1 (by have := H1.out.real.len; have := H1.out.ok.mi; omega) hwl.2
      rw [hHD] at K
      exact K
    have HHD := hid hHD
    clear hHD hbg hwl
    obtain ⟨c0, c1, c2, c3, c4⟩ := FX4.out w4 (Ext.refl _)
    go_wp2_with fail
    clear c0 c1 c2 c3 c4
    refine KH.out.mono ?_
    clear KH
    rintro e w5 ⟨rfl, h5⟩
    obtain ⟨R, hR⟩ : ∃ R, w5.heap.size = R := ⟨_, rfl⟩
    obtain ⟨w6, hw6⟩ : ∃ w6, w5.alloc (.cells #[.int .i64 (I : Int), .bool HD] 53) = w6 := ⟨_, rfl⟩
    have h6 : Ext w5 w6 := by rw [← hw6]; exact Ext.alloc (Ext.refl _) _
    have h46 := h5.trans h6
    have hR4 : w4.heap.size ≤ R := by rw [← hR]; exact h5.size
    have r6 : w6.heap[R]? = some (.cells #[.int .i64 (I : Int), .bool HD] 53 (0, 0)) := by rw [← hw6, ← hR]; exact heap_alloc_new w5 _
    have hRl : R < w6.heap.size := (Array.getElem?_eq_some_iff.1 r6).1
    have HW6 := hid hw6
    have HR := hid hR
    have HR6 := hid r6
    clear hw6 hR h5 h6 r6
    obtain ⟨c0, c1, c2, c3, c4⟩ := FX4.out w6 h46
    obtain ⟨r0, r1⟩ : w6.cell? ⟨R, 0, none⟩ = some (.int .i64 (I : Int)) ∧ w6.cell? ⟨R, 1, none⟩ = some (.bool HD) := ⟨by rw [cell_of_row w6 R 0 _ _ _ HR6.out]; rfl, by rw [cell_of_row w6 R 1 _ _ _ HR6.out]; rfl⟩
    have KWi : Hid (∀ (hd : Bool) (w' : World), Ext w4 w' → Calls Tryz.prog 30 #[.agg #[.int .i64 f.pl, .int .i64 f.mi, .slice s.a1 f.tr.length s.c1, .slice s.a2 f.bl.length s.c2, .slice (some ⟨g, 0, none⟩) 1 s.c3], .int .i64 0, .agg #[.int .i64 (I : Int), .bool hd]] w' (WithPost w' (oneC f st rs) 0 ⟨I, hd⟩)) := fun hd w' h =>
      with_any _ (oneC f st rs) 0 ⟨I, hd⟩ w' (HGV.out w' h).fg HSZ.out
    unfold WithPost at KWi
    have hany := mem_any_eq H1.out (I : Int)
    rw [HHD.out] at hany
    go_upto_region 9 with fail
    rw [HW6.out, HR.out]
    clear HW6 HR
    cases hM : rs.any (fun x => x.bl == (I : Int))
    case true =>
      have hwe : withE (oneC f st rs) 0 ⟨I, HD⟩ = 5 := by rw [with_again H1.out.check (r := ⟨I, HD⟩) ⟨by dsimp only; omega, by dsimp only; omega⟩]; dsimp only; rw [hM]; rfl
      have K1 := KWi.out HD w6 h46
      rw [hwe] at K1
      rw [hM] at hany
      have HK1 := hid K1
      have HANY := hid hany
      clear K1 hM hany hwe
      go_wp2_with fail
      clear c0 c1 c2 c3 c4 r0 r1
      refine HK1.out.mono ?_
      clear HK1
      rintro e w7 ⟨v, rfl, h7, -, hv⟩
      obtain rfl := hv (by decide)
      clear hv
      obtain ⟨w8, hw8⟩ : ∃ w8, w7.alloc (.cells #[.int .i64 0, .int .i64 0, .slice none 0 0, .slice none 0 0, .slice none 0 0] 28) = w8 := ⟨_, rfl⟩
      have h8 : Ext w7 w8 := by rw [← hw8]; exact Ext.alloc (Ext.refl _) _
      have h68 := h7.trans h8
      have h48 := h46.trans h68
      have HW8 := hid hw8
      clear hw8 h7 h8
      go_upto_region 10 with fail
      rw [HW8.out]
      clear HW8
      have FXA : Hid (∀ w', Ext w8 w' → (w'.cell? ⟨F, 0, none⟩ = some (.int .i64 f.pl) ∧ w'.cell? ⟨F, 1, none⟩ = some (.int .i64 f.mi) ∧ w'.cell? ⟨F, 2, none⟩ = some (.slice s.a1 f.tr.length s.c1) ∧ w'.cell? ⟨F, 3, none⟩ = some (.slice s.a2 f.bl.length s.c2) ∧ w'.cell? ⟨F, 4, none⟩ = some (.slice (some ⟨g, 0, none⟩) 1 s.c3)) ∧ (w'.cell? ⟨R, 0, none⟩ = some (.int .i64 (I : Int)) ∧ w'.cell? ⟨R, 1, none⟩ = some (.bool HD)) ∧ w'.cell? ⟨g, 1, none⟩ = some (.slice AR rs.length cR)) := fun w' h =>
        ⟨FX4.out w' (h48.trans h), ⟨(h68.trans h).cell (by rw [cell_of_row w6 R 0 _ _ _ HR6.out]; rfl), (h68.trans h).cell (by rw [cell_of_row w6 R 1 _ _ _ HR6.out]; rfl)⟩, (HRP.out w' (h48.trans h)).1⟩
      have KC : Hid (∀ w', Ext w8 w' → Calls Tryz.prog 80 #[.slice AR rs.length cR, .agg #[.int .i64 (I : Int), .bool HD]] w' fun e w2 => e = .returned (.bool true) ∧ Ext w8 w2) := fun w' h => by
        have K := containsR_any AR cR rs ⟨(I : Int), HD⟩ w' (HRP.out w' (h48.trans h)).2 (by have := H1.out.tr.len; omega)
        rw [HANY.out] at K
        exact K.mono fun e w2 ⟨e1, e2⟩ => ⟨e1, h.trans e2⟩
      have hq0 : Ext w8 w8.drew := Ext.drew (Ext.refl _)
      have hq1 := Ext.refl w8
      go_region_held3 (fun w' => (w'.cell? ⟨F, 0, none⟩ = some (.int .i64 f.pl) ∧ w'.cell? ⟨F, 1, none⟩ = some (.int .i64 f.mi) ∧ w'.cell? ⟨F, 2, none⟩ = some (.slice s.a1 f.tr.length s.c1) ∧ w'.cell? ⟨F, 3, none⟩ = some (.slice s.a2 f.bl.length s.c2) ∧ w'.cell? ⟨F, 4, none⟩ = some (.slice (some ⟨g, 0, none⟩) 1 s.c3)) ∧ (w'.cell? ⟨R, 0, none⟩ = some (.int .i64 (I : Int)) ∧ w'.cell? ⟨R, 1, none⟩ = some (.bool HD)) ∧ w'.cell? ⟨g, 1, none⟩ = some (.slice AR rs.length cR))
        (first | exact FXA.out _ hq0 | exact FXA.out _ hq1 | exact FXA.out _ hC)
        (first | (go_at_call 80; refine (KC.out _ hq0).mono ?_; rintro e wC ⟨rfl, hC⟩))
      have hfin0 := HEX.out.trans (h48.trans hC)
      go_wp2_with fail
      refine (awake_any _).mono ?_
      rintro e w16 ⟨rfl, h16⟩
      have hfin := hfin0.trans h16
      go_wp2
      go_ret
      exact ⟨rfl, hfin⟩
    case false =>
      have MQ := mor_ok H1.out (i := (I : Int)) ⟨by omega, by omega⟩ hM
      rw [HHD.out] at MQ
      have MQ := hid MQ
      have K1 := KWi.out HD w6 h46
      rw [MQ.out.e1] at K1
      rw [hM] at hany
      have HK1 := hid K1
      have HANY := hid hany
      clear K1 hM hany
      go_wp2_with fail
      clear c0 c1 c2 c3 c4 r0 r1
      refine HK1.out.mono ?_
      clear HK1
      rintro e w7 ⟨v, rfl, h7, hv, -⟩
      have hv := hv (by first | rfl | trivial)
      rw [with_is] at hv
      obtain ⟨b1, q1, b2, q2, b3, q3, rfl⟩ := hv.one
      obtain ⟨F2, hF2⟩ : ∃ F2, w7.heap.size = F2 := ⟨_, rfl⟩
      obtain ⟨w8, hw8⟩ : ∃ w8, w7.alloc (.cells #[.int .i64 f.pl, .int .i64 f.mi, .slice b1 f.tr.length q1, .slice b2 f.bl.length q2, .slice b3 1 q3] 28) = w8 := ⟨_, rfl⟩
      have h8 : Ext w7 w8 := by rw [← hw8]; exact Ext.alloc (Ext.refl _) _
      have h68 := h7.trans h8
      have h48 := h46.trans h68
      have hb8 : w8.heap[F2]? = some (.cells #[.int .i64 f.pl, .int .i64 f.mi, .slice b1 f.tr.length q1, .slice b2 f.bl.length q2, .slice b3 1 q3] 28 (0, 0)) := by rw [← hw8, ← hF2]; exact heap_alloc_new w7 _
      have hF2R : F2 ≠ R := by have := h7.size; omega
      have hv8 := hv.ext h8
      have HB8 := hid hb8
      have HV8 := hid hv8
      have HW8 := hid hw8
      have HF2 := hid hF2
      clear hw8 h7 h8 hv hv8 hb8 hF2
      go_upto_region 10 with fail
      rw [HW8.out, HF2.out]
      clear HW8 HF2
      have FXA : Hid (∀ w', Ext w8 w' → (w'.cell? ⟨F, 0, none⟩ = some (.int .i64 f.pl) ∧ w'.cell? ⟨F, 1, none⟩ = some (.int .i64 f.mi) ∧ w'.cell? ⟨F, 2, none⟩ = some (.slice s.a1 f.tr.length s.c1) ∧ w'.cell? ⟨F, 3, none⟩ = some (.slice s.a2 f.bl.length s.c2) ∧ w'.cell? ⟨F, 4, none⟩ = some (.slice (some ⟨g, 0, none⟩) 1 s.c3)) ∧ (w'.cell? ⟨R, 0, none⟩ = some (.int .i64 (I : Int)) ∧ w'.cell? ⟨R, 1, none⟩ = some (.bool HD)) ∧ w'.cell? ⟨g, 1, none⟩ = some (.slice AR rs.length cR)) := fun w' h =>
        ⟨FX4.out w' (h48.trans h), ⟨(h68.trans h).cell (by rw [cell_of_row w6 R 0 _ _ _ HR6.out]; rfl), (h68.trans h).cell (by rw [cell_of_row w6 R 1 _ _ _ HR6.out]; rfl)⟩, (HRP.out w' (h48.trans h)).1⟩
      have KC : Hid (∀ w', Ext w8 w' → Calls Tryz.prog 80 #[.slice AR rs.length cR, .agg #[.int .i64 (I : Int), .bool HD]] w' fun e w2 => e = .returned (.bool false) ∧ Ext w8 w2) := fun w' h => by
        have K := containsR_any AR cR rs ⟨(I : Int), HD⟩ w' (HRP.out w' (h48.trans h)).2 (by have := H1.out.tr.len; omega)
        rw [HANY.out] at K
        exact K.mono fun e w2 ⟨e1, e2⟩ => ⟨e1, h.trans e2⟩
      have hq0 : Ext w8 w8.drew := Ext.drew (Ext.refl _)
      have hq1 := Ext.refl w8
      go_region_held3 (fun w' => (w'.cell? ⟨F, 0, none⟩ = some (.int .i64 f.pl) ∧ w'.cell? ⟨F, 1, none⟩ = some (.int .i64 f.mi) ∧ w'.cell? ⟨F, 2, none⟩ = some (.slice s.a1 f.tr.length s.c1) ∧ w'.cell? ⟨F, 3, none⟩ = some (.slice s.a2 f.bl.length s.c2) ∧ w'.cell? ⟨F, 4, none⟩ = some (.slice (some ⟨g, 0, none⟩) 1 s.c3)) ∧ (w'.cell? ⟨R, 0, none⟩ = some (.int .i64 (I : Int)) ∧ w'.cell? ⟨R, 1, none⟩ = some (.bool HD)) ∧ w'.cell? ⟨g, 1, none⟩ = some (.slice AR rs.length cR))
        (first | exact FXA.out _ hq0 | exact FXA.out _ hq1 | exact FXA.out _ hC)
        (first | (go_at_call 80; refine (KC.out _ hq0).mono ?_; rintro e wC ⟨rfl, hC⟩))
      obtain ⟨⟨c0, c1, c2, c3, c4⟩, ⟨r0, r1⟩, -⟩ := FXA.out wC hC
      have rz : wC.frozen? ⟨R, 1, none⟩ = false := by
        have := (Below.block (h68.trans hC) R hRl).trans HR6.out
        simp [World.frozen?, this]
      have hb : BelS (fun k => k = R) wC (wC.setCell ⟨R, 1, none⟩ (.bool (!HD))) := BelS.setCell (S := fun k => k = R) (BelS.refl _ wC) _ _ rfl
      have q8 := Below.block hC F2 (Array.getElem?_eq_some_iff.1 HB8.out).1
      have qb := hb.heap (q8.trans HB8.out) hF2R
      have qv := (HV8.out.ext hC).older hb (by have := (Array.getElem?_eq_some_iff.1 HR6.out).1; omega)
      have qr := heap_set (i := 1) ((Below.block (h68.trans hC) R hRl).trans HR6.out) (.bool (!HD))
      have qx := Ext.setCell (h48.trans hC) (p := ⟨R, 1, none⟩) hR4 (.bool (!HD))
      obtain ⟨w9, hw9⟩ : ∃ w9, wC.setCell ⟨R, 1, none⟩ (.bool (!HD)) = w9 := ⟨_, rfl⟩
      rw [hw9] at qb qv qr qx
      have h49 := qx
      have FX9 : Hid (∀ w', Ext w9 w' → (w'.cell? ⟨F, 0, none⟩ = some (.int .i64 f.pl) ∧ w'.cell? ⟨F, 1, none⟩ = some (.int .i64 f.mi) ∧ w'.cell? ⟨F, 2, none⟩ = some (.slice s.a1 f.tr.length s.c1) ∧ w'.cell? ⟨F, 3, none⟩ = some (.slice s.a2 f.bl.length s.c2) ∧ w'.cell? ⟨F, 4, none⟩ = some (.slice (some ⟨g, 0, none⟩) 1 s.c3)) ∧ (w'.cell? ⟨F2, 0, none⟩ = some (.int .i64 f.pl) ∧ w'.cell? ⟨F2, 1, none⟩ = some (.int .i64 f.mi) ∧ w'.cell? ⟨F2, 2, none⟩ = some (.slice b1 f.tr.length q1) ∧ w'.cell? ⟨F2, 3, none⟩ = some (.slice b2 f.bl.length q2) ∧ w'.cell? ⟨F2, 4, none⟩ = some (.slice b3 1 q3)) ∧ (w'.cell? ⟨R, 0, none⟩ = some (.int .i64 (I : Int)) ∧ w'.cell? ⟨R, 1, none⟩ = some (.bool (!HD)))) := fun w' h =>
        ⟨FX4.out w' (h49.trans h), ⟨h.cell (by rw [cell_of_row w9 F2 0 _ _ _ qb]; rfl), h.cell (by rw [cell_of_row w9 F2 1 _ _ _ qb]; rfl), h.cell (by rw [cell_of_row w9 F2 2 _ _ _ qb]; rfl), h.cell (by rw [cell_of_row w9 F2 3 _ _ _ qb]; rfl), h.cell (by rw [cell_of_row w9 F2 4 _ _ _ qb]; rfl)⟩, h.cell (by rw [cell_of_row w9 R 0 _ _ _ qr]; rfl), h.cell (by rw [cell_of_row w9 R 1 _ _ _ qr]; rfl)⟩
      have HV9 := hid qv
      have HW9 := hid hw9
      go_upto_region 13 with fail
      try rw [HW9.out]
      clear HW9 hb q8 qb qv qr qx hw9 c0 c1 c2 c3 c4 r0 r1 rz FXA KC hq0 hq1 HV8 HB8 h48 h68 hC HANY HR6 h46 hRl hF2R
      have K2 := KWi.out (!HD) w9 h49
      rw [MQ.out.e2] at K2
      have HK2 := hid K2
      clear K2 KWi
      obtain ⟨⟨c0, c1, c2, c3, c4⟩, -, ⟨r0, r1⟩⟩ := FX9.out w9 (Ext.refl _)
      go_wp2_with fail
      clear c0 c1 c2 c3 c4 r0 r1
      refine HK2.out.mono ?_
      clear HK2
      rintro e w10 ⟨v, rfl, h10, hv, -⟩
      have hv := hv (by first | rfl | trivial)
      rw [with_is] at hv
      obtain ⟨e1, k1, e2, k2, e3, k3, rfl⟩ := hv.one
      obtain ⟨F3, hF3⟩ : ∃ F3, w10.heap.size = F3 := ⟨_, rfl⟩
      obtain ⟨w11, hw11⟩ : ∃ w11, w10.alloc (.cells #[.int .i64 f.pl, .int .i64 f.mi, .slice e1 f.tr.length k1, .slice e2 f.bl.length k2, .slice e3 1 k3] 28) = w11 := ⟨_, rfl⟩
      have h11 : Ext w10 w11 := by rw [← hw11]; exact Ext.alloc (Ext.refl _) _
      have hb11 : w11.heap[F3]? = some (.cells #[.int .i64 f.pl, .int .i64 f.mi, .slice e1 f.tr.length k1, .slice e2 f.bl.length k2, .slice e3 1 k3] 28 (0, 0)) := by rw [← hw11, ← hF3]; exact heap_alloc_new w10 _
      have h9b := h10.trans h11
      have h4b := h49.trans h9b
      have FX : Hid (∀ w', Ext w11 w' → (w'.cell? ⟨F, 0, none⟩ = some (.int .i64 f.pl) ∧ w'.cell? ⟨F, 1, none⟩ = some (.int .i64 f.mi) ∧ w'.cell? ⟨F, 2, none⟩ = some (.slice s.a1 f.tr.length s.c1) ∧ w'.cell? ⟨F, 3, none⟩ = some (.slice s.a2 f.bl.length s.c2) ∧ w'.cell? ⟨F, 4, none⟩ = some (.slice (some ⟨g, 0, none⟩) 1 s.c3)) ∧ (w'.cell? ⟨F2, 0, none⟩ = some (.int .i64 f.pl) ∧ w'.cell? ⟨F2, 1, none⟩ = some (.int .i64 f.mi) ∧ w'.cell? ⟨F2, 2, none⟩ = some (.slice b1 f.tr.length q1) ∧ w'.cell? ⟨F2, 3, none⟩ = some (.slice b2 f.bl.length q2) ∧ w'.cell? ⟨F2, 4, none⟩ = some (.slice b3 1 q3)) ∧ (w'.cell? ⟨F3, 0, none⟩ = some (.int .i64 f.pl) ∧ w'.cell? ⟨F3, 1, none⟩ = some (.int .i64 f.mi) ∧ w'.cell? ⟨F3, 2, none⟩ = some (.slice e1 f.tr.length k1) ∧ w'.cell? ⟨F3, 3, none⟩ = some (.slice e2 f.bl.length k2) ∧ w'.cell? ⟨F3, 4, none⟩ = some (.slice e3 1 k3)) ∧ w'.cell? ⟨R, 1, none⟩ = some (.bool (!HD))) := fun w' h => by
        obtain ⟨q1, q2, q3⟩ := FX9.out w' (h9b.trans h)
        exact ⟨q1, q2, ⟨h.cell (by rw [cell_of_row w11 F3 0 _ _ _ hb11]; rfl), h.cell (by rw [cell_of_row w11 F3 1 _ _ _ hb11]; rfl), h.cell (by rw [cell_of_row w11 F3 2 _ _ _ hb11]; rfl), h.cell (by rw [cell_of_row w11 F3 3 _ _ _ hb11]; rfl), h.cell (by rw [cell_of_row w11 F3 4 _ _ _ hb11]; rfl)⟩, q3.2⟩
      have HGW : Hid (∀ w', Ext w11 w' → FgR w' (.agg #[.int .i64 f.pl, .int .i64 f.mi, .slice b1 f.tr.length q1, .slice b2 f.bl.length q2, .slice b3 1 q3]) (oneC f st (rs ++ [⟨(I : Int), HD⟩]))) := fun w' h => (HV9.out.ext (h9b.trans h)).fg
      have HGA : Hid (∀ w', Ext w11 w' → FgR w' (.agg #[.int .i64 f.pl, .int .i64 f.mi, .slice e1 f.tr.length k1, .slice e2 f.bl.length k2, .slice e3 1 k3]) (oneC f st (rs ++ [⟨(I : Int), !HD⟩]))) := fun w' h => (hv.ext (h11.trans h)).fg
      have HG1 : Hid (∀ w', Ext w11 w' → FgR w' (.agg #[.int .i64 f.pl, .int .i64 f.mi, .slice s.a1 f.tr.length s.c1, .slice s.a2 f.bl.length s.c2, .slice (some ⟨g, 0, none⟩) 1 s.c3]) (oneC f st rs)) := fun w' h => (HGV.out w' (h4b.trans h)).fg
      have HLB : Hid (∀ w', Ext w11 w' → Ints w' (some ⟨bA, oA, none⟩) la) := fun w' h => HLA.out w' (h4b.trans h)
      have HEN : Hid (∀ w', Ext w11 w' → Ext w w') := fun w' h => HEX.out.trans (h4b.trans h)
      have HW11 := hid hw11
      have HF3 := hid hF3
      clear hw11 h11 hb11 h9b h4b hv h10 hF3 HV9 h49 FX9
      go_upto_region 14 with fail
      rw [HW11.out, HF3.out]
      clear HW11 HF3 FX4 HGV HLA HEX HRP
      obtain ⟨N0, hN0⟩ : ∃ N, countV (oneC f st rs) 0 = N := ⟨_, rfl⟩
      obtain ⟨N1, hN1⟩ : ∃ N, countV (oneC f st (rs ++ [⟨(I : Int), HD⟩])) 0 = N := ⟨_, rfl⟩
      obtain ⟨N2, hN2⟩ : ∃ N, countV (oneC f st (rs ++ [⟨(I : Int), !HD⟩])) 0 = N := ⟨_, rfl⟩
      obtain ⟨BA, hBA⟩ : ∃ N, heardA (oneC f st rs) 0 (I : Int) = N := ⟨_, rfl⟩
      obtain ⟨BN, hBN⟩ : ∃ N, heardN (oneC f st rs) 0 (I : Int) = N := ⟨_, rfl⟩
      have hS1 := ok_sized MQ.out.ok1
      have hS2 := ok_sized MQ.out.ok2
      have HS1 := hid hS1
      have HS2 := hid hS2
      have c1z := (one_cart (c := ⟨st, rs⟩) H1.out.check rfl).1
      have c2z := (one_cart (c := ⟨st, rs ++ [⟨(I : Int), HD⟩]⟩) MQ.out.ck1 rfl).1
      have c3z := (one_cart (c := ⟨st, rs ++ [⟨(I : Int), !HD⟩]⟩) MQ.out.ck2 rfl).1
      have P1 := countx_any _ (oneC f st rs) 0 w11 (HG1.out w11 (Ext.refl _)) HSZ.out
      have P2 := hid (fun w' (h : Ext w11 w') => countx_any _ (oneC f st (rs ++ [⟨(I : Int), HD⟩])) 0 w' (HGW.out w' h) HS1.out)
      have P3 := hid (fun w' (h : Ext w11 w') => countx_any _ (oneC f st (rs ++ [⟨(I : Int), !HD⟩])) 0 w' (HGA.out w' h) HS2.out)
      have P4 := hid (fun w' (h : Ext w11 w') => heardx_any _ (oneC f st rs) 0 (I : Int) w' (HG1.out w' h) HSZ.out)
      rw [c1z, hN0] at P1
      rw [c2z, hN1] at P2
      rw [c3z, hN2] at P3
      rw [hBA, hBN, MQ.out.he] at P4
      have P1 := hid P1
      have HN : Hid (1 ≤ N1 ∧ N1 + N2 = N0 ∧ (0 ≤ N2 ∧ N0 ≤ 1000000000) ∧ (BA || BN) = (N2 == 0) ∧ (BA = true → HD = true) ∧ (BN = true → HD = false)) := by
        rw [← hN0, ← hN1, ← hN2, ← hBA, ← hBN]
        exact ⟨MQ.out.yes, MQ.out.all, MQ.out.lo, MQ.out.no, MQ.out.al, MQ.out.ne⟩
      clear hN0 hN1 hN2 hBA hBN hS1 hS2 c1z c2z c3z
      obtain ⟨⟨c0, c1, c2, c3, c4⟩, ⟨d0, d1, d2, d3, d4⟩, ⟨g0, g1, g2, g3, g4⟩, -⟩ := FX.out w11 (Ext.refl _)
      go_wp2_with fail
      clear c0 c1 c2 c3 c4 d0 d1 d2 d3 d4 g0 g1 g2 g3 g4
      refine P1.out.mono ?_
      clear P1
      rintro e w12 ⟨rfl, h12⟩
      obtain ⟨-, ⟨d0, d1, d2, d3, d4⟩, -⟩ := FX.out w12 h12
      go_wp2_with fail
      clear d0 d1 d2 d3 d4
      refine (P2.out w12 h12).mono ?_
      clear P2
      rintro e w13 ⟨rfl, h13'⟩
      have h13 := h12.trans h13'
      obtain ⟨-, -, ⟨d0, d1, d2, d3, d4⟩, -⟩ := FX.out w13 h13
      go_wp2_with fail
      clear d0 d1 d2 d3 d4
      refine (P3.out w13 h13).mono ?_
      clear P3
      rintro e w14 ⟨rfl, h14'⟩
      have h14 := h13.trans h14'
      obtain ⟨⟨d0, d1, d2, d3, d4⟩, -, -, -⟩ := FX.out w14 h14
      go_wp2_with fail
      clear d0 d1 d2 d3 d4
      refine (P4.out w14 h14).mono ?_
      clear P4
      rintro e w15 ⟨rfl, h15'⟩
      have h15 := h14.trans h15'
      clear h12 h13' h13 h14' h14 h15'
      have hmi : 0 ≤ f.mi ∧ f.mi ≤ 8 := H1.out.ok.mi
      go_upto_region 20 with fail
      go_cut [176] (fun s176 wx => s176 = .bool false ∧ w15 = wx)
      case first =>
        obtain ⟨⟨d0, d1, d2, d3, d4⟩, -, -, r1⟩ := FX.out w15 h15
        obtain ⟨n1, n2, ⟨n3, n4⟩, n5, n6, n7⟩ := HN.out
        have n1' : ¬ N1 < 1 := by omega
        cases BA
        case false =>
          cases BN
          case false =>
            have b2 : (N2 == 0) = false := n5.symm
            clear n5 n6 n7
            go_wp2_with fail
            go_meet
            exact ⟨rfl, (by first | rfl | trivial)⟩
          case true =>
            have b2 : (N2 == 0) = true := n5.symm
            obtain rfl : HD = false := n7 rfl
            clear n5 n6 n7
            go_wp2_with fail
            go_meet
            exact ⟨rfl, (by first | rfl | trivial)⟩
        case true =>
          obtain rfl : HD = true := n6 rfl
          cases BN
          case false =>
            have b2 : (N2 == 0) = true := n5.symm
            clear n5 n6 n7
            go_wp2_with fail
            go_meet
            exact ⟨rfl, (by first | rfl | trivial)⟩
          case true => exact absurd (n7 rfl) (by decide)
      case rest =>
        obtain ⟨rfl, hw15⟩ := hcut
        subst hw15
        obtain ⟨⟨c0, c1, c2, c3, c4⟩, -, -, -⟩ := FX.out w15 h15
        go_wp2
        clear c0 c1 c2 c3 c4
        go_loopw [181] (fun i181 wr => ∃ m : Nat, (m : Int) ≤ f.mi + 1 ∧ i181 = .int .i64 (m : Int) ∧ Ext w15 wr) (fun i _ => (f.mi + 1).toNat - (intOf i).toNat)
        case atStart => exact ⟨0, by omega, rfl, Ext.refl _⟩
        case round =>
          obtain ⟨m, hm, rfl, hxr⟩ := hrel
          have hr := h15.trans hxr
          by_cases hlt : (m : Int) < f.mi + 1
          · have hmm : m ≤ f.mi.toNat := by omega
            obtain ⟨LX, hLX⟩ : ∃ N, atL (oneC f st rs) 0 (m : Int) = N := ⟨_, rfl⟩
            obtain ⟨LY, hLY⟩ : ∃ N, atL (oneC f st (rs ++ [⟨(I : Int), HD⟩])) 0 (m : Int) = N := ⟨_, rfl⟩
            have hat := MQ.out.at1 m hmm
            rw [hLX, hLY] at hat
            have HAT := hid hat
            obtain ⟨xm, hxm⟩ := get_of_lt la m (by have e := H1.out.real.len; have e2 : (oneC f st rs).mi = f.mi := rfl; rw [e2] at e; omega)
            have hxd : la.getD m 0 = xm := by rw [List.getD_eq_getElem?_getD, hxm]; rfl
            have kx : Hid (∀ w', Ext w11 w' → w'.cell? ⟨bA, oA + m, none⟩ = some (.int .i64 xm)) := fun w' h => by
              obtain ⟨b1, o1, e1, k1⟩ := Ints.at_ (HLB.out w' h) hxm
              cases e1
              exact k1
            have hml : (m : Int) < (la.length : Int) := by have := (List.getElem?_eq_some_iff.1 hxm).1; omega
            have Q1 := at_any _ (oneC f st rs) 0 (m : Int) wr (HG1.out wr hr) HSZ.out
            have Q2 := hid (fun w' (h : Ext w11 w') => at_any _ (oneC f st (rs ++ [⟨(I : Int), HD⟩])) 0 (m : Int) w' (HGW.out w' h) HS1.out)
            unfold AtPost at Q1 Q2
            rw [hLX, hat.1] at Q1
            rw [hLY, hat.2.1] at Q2
            have Q1 := hid Q1
            have hq1 : memI xm LY = true := by rw [← hxd]; exact hat.2.2.1
            have hq2 : (LY.any fun x => !memI x LX) = false := by
              rw [List.any_eq_false]
              intro x hx
              rw [hat.2.2.2.1 x hx]; simp
            have HQ1 := hid hq1
            have HQ2 := hid hq2
            have hx8 : LX.length ≤ 8 := hat.2.2.2.2.1
            have hy8 : LY.length ≤ 8 := hat.2.2.2.2.2
            clear hLX hLY hat hxm hxd hq1 hq2 HAT
            obtain ⟨⟨c0, c1, c2, c3, c4⟩, -, -, -⟩ := FX.out wr hr
            go_wp2_with fail
            clear c0 c1 c2 c3 c4
            refine Q1.out.mono ?_
            clear Q1
            rintro e w16 ⟨r, rfl, h16, A1, k1, rfl, hI1, -⟩
            obtain ⟨w17, hw17⟩ : ∃ w17, w16.alloc (.cells #[.slice A1 LX.length k1] 42) = w17 := ⟨_, rfl⟩
            have h17 : Ext w16 w17 := by rw [← hw17]; exact Ext.alloc (Ext.refl _) _
            have hbx : w17.cell? ⟨w16.heap.size, 0, none⟩ = some (.slice A1 LX.length k1) := by rw [← hw17]; simp [go_sem]
            have hrx := h16.trans h17
            have hr17 := hr.trans hrx
            have HI1 := hid (hI1.ext h17)
            have HBX := hid hbx
            have HW17 := hid hw17
            clear hw17 hbx hI1 h17
            go_upto_region 26 with fail
            rw [HW17.out]
            clear HW17
            obtain ⟨-, ⟨c0, c1, c2, c3, c4⟩, -, -⟩ := FX.out w17 hr17
            go_wp2_with fail
            clear c0 c1 c2 c3 c4
            refine (Q2.out w17 hr17).mono ?_
            clear Q2
            rintro e w18 ⟨r, rfl, h18, A2, k2, rfl, hI2, -⟩
            have hr18 := hr17.trans h18
            have kxm := kx.out w18 hr18
            have KC1 := hid (containsI_any xm A2 k2 LY w18 hI2 (by omega))
            have KC2 := hid (containsFunc_int A2 k2 LY _ anyx _ w18 hI2 (by omega) (anyx_all LY) (lmor1_fn w18 w16.heap.size A1 k1 LX (by omega) (h18.cell HBX.out) (HI1.out.ext h18)))
            rw [HQ1.out] at KC1
            rw [HQ2.out] at KC2
            clear HQ1 HQ2 hI2
            go_wp2_with fail
            refine KC1.out.mono ?_
            clear KC1
            rintro e w19 ⟨rfl, rfl⟩
            go_wp2_with fail
            refine KC2.out.mono ?_
            clear KC2
            rintro e w20 ⟨rfl, h20⟩
            have hxN := hxr.trans (hrx.trans (h18.trans h20))
            have hmN : ((m + 1 : Nat) : Int) ≤ f.mi + 1 := by omega
            clear kxm kx HI1 HBX
            go_wp2
            go_roundw
            case rel => exact ⟨m + 1, hmN, by go_num, hxN⟩
            case measure => simp [intOf]; omega
          · have h30 := MQ.out.st1
            obtain ⟨V0, hV0⟩ : ∃ N, stillV (oneC f st rs) 0 = N := ⟨_, rfl⟩
            obtain ⟨V1, hV1⟩ : ∃ N, stillV (oneC f st (rs ++ [⟨(I : Int), HD⟩])) 0 = N := ⟨_, rfl⟩
            have S1 := still_any _ (oneC f st rs) 0 wr (HG1.out wr hr) HSZ.out
            have S2 := hid (fun w' (h : Ext w11 w') => still_any _ (oneC f st (rs ++ [⟨(I : Int), HD⟩])) 0 w' (HGW.out w' h) HS1.out)
            unfold StillPost at S1 S2
            rw [hV0, h30.1] at S1
            rw [hV1, h30.2.1] at S2
            rw [hV0, hV1] at h30
            have S1 := hid S1
            have hv1 : V1 ≤ V0 := h30.2.2.1
            have hv2 : V0 ≤ f.mi := h30.2.2.2
            clear hV0 hV1 h30
            obtain ⟨⟨c0, c1, c2, c3, c4⟩, -, -, -⟩ := FX.out wr hr
            go_wp2_with fail
            clear c0 c1 c2 c3 c4
            refine S1.out.mono ?_
            clear S1
            rintro e w16 ⟨rfl, h16⟩
            have hr16 := hr.trans h16
            obtain ⟨-, ⟨c0, c1, c2, c3, c4⟩, -, -⟩ := FX.out w16 hr16
            go_wp2_with fail
            clear c0 c1 c2 c3 c4
            refine (S2.out w16 hr16).mono ?_
            clear S2
            rintro e w17 ⟨rfl, h17⟩
            have hr17 := hr16.trans h17
            obtain ⟨⟨c0, c1, c2, c3, c4⟩, -, -, -⟩ := FX.out w17 hr17
            go_wp2_with fail
            clear c0 c1 c2 c3 c4
            refine (awake_any w17).mono ?_
            rintro e w18 ⟨rfl, h18⟩
            have hfin := HEN.out _ (hr17.trans h18)
            go_wp2
            go_ret
            exact ⟨rfl, hfin⟩
end Go.Proofs.YtpbpcplboikpcaaGreat
