/- The walk of FogClashed. Printed by my gen_fcla.py. -/
import Derived.Test.YtpbpcplboikpcaaGreatFGSt
import Derived.Test.YtpbpcplboikpcaaGreatFMade
import Derived.Test.YtpbpcplboikpcaaGreatFTold
import Derived.Test.YtpbpcplboikpcaaGreatFTripP
import Derived.Test.YtpbpcplboikpcaaGreatG5
import Derived.Deep.DeepCutAuto
import Derived.Deep.CutBlock
import Derived.Test.YtpbpcplboikpcaaGreatFOne
import Derived.Test.YtpbpcplboikpcaaGreatFDele
import Derived.Test.YtpbpcplboikpcaaGreatFAgree
import Derived.Test.YtpbpcplboikpcaaGreatFClaP
import Derived.Deep.RegionHeld3
namespace Go.Proofs.YtpbpcplboikpcaaGreat
open Go Go.RowKit Go.Shelf
set_option linter.unusedVariables false
set_option linter.unusedSimpArgs false

/-- What FogClashed is told of a fog. -/
structure ClaOK (f : Fg) (c : Ct) (N CE AE : Int) (L : List Int) : Prop where
  or_ : (N = 0 ∧ CE = 0 ∧ AE = 7 ∧ ClashOK f c L) ∨ (N ≠ 0 ∧ CE = 6 ∧ AE = 0 ∧ L = [])
theorem cla_ok {f : Fg} {st : List Int} {rs : List Rp} (h : FogOK (oneC f st rs)) (hck : checkF (oneC f st rs) = 0) :
    cartE (oneC f st rs) 0 = 0 ∧ ClaOK (oneC f st rs) ⟨st, rs⟩ (countV (oneC f st rs) 0) (clashE (oneC f st rs) 0) (atE (oneC f st rs) 0 0) (clashL (oneC f st rs) 0) := by
  obtain ⟨h1, h2⟩ := one_cart (c := ⟨st, rs⟩) hck rfl
  have hm : (⟨st, rs⟩ : Ct) ∈ (oneC f st rs).ct := by unfold oneC; simp
  have hmi := h.mi
  have hmo : miOK (oneC f st rs) 0 = true := by unfold miOK; rw [inB_iff]; omega
  refine ⟨h1, ⟨?_⟩⟩
  cases hl : lostF (farM (oneC f st rs)) (oneC f st rs) ⟨st, rs⟩
  · right
    have e := (clash_none_iff h hm).2 hl
    have hcE : clashE (oneC f st rs) 0 = 6 := by unfold clashE; rw [if_neg (fun x => x h1), h2, e]; rfl
    refine ⟨?_, hcE, ?_, ?_⟩
    · unfold countV; rw [if_pos h1, h2]
      unfold lostF at hl
      simpa using hl
    · unfold atE; rw [if_neg (fun x => x h1), hmo, h2, hl]; rfl
    · unfold clashL; rw [if_neg (by rw [hcE]; decide)]
  · left
    cases e : clashF (farM (oneC f st rs)) (oneC f st rs) ⟨st, rs⟩ with
    | none => rw [(clash_none_iff h hm).1 e] at hl; cases hl
    | some l =>
      have hcE : clashE (oneC f st rs) 0 = 0 := by unfold clashE; rw [if_neg (fun x => x h1), h2, e]; rfl
      refine ⟨?_, hcE, ?_, ?_⟩
      · unfold countV; rw [if_pos h1, h2]
        unfold lostF at hl
        simpa using hl
      · unfold atE; rw [if_neg (fun x => x h1), hmo, h2, hl]; rfl
      · unfold clashL; rw [if_pos hcE, h2, e]
        exact clash_some h hm e
theorem cla_first {P M : Nat} {f : Fg} {st : List Int} {rs : List Rp} {l : List Int} (h : OneF P M (oneC f st rs) st rs l) : clashE (oneC f st rs) 0 = 6 := by
  obtain ⟨h1, h2⟩ := one_cart h.check h.ct
  unfold clashE
  rw [if_neg (fun x => x h1), h2, (clash_none_iff h.ok h.mem).2 h.found]; rfl
theorem againI_asc : ∀ {l pre : List Int}, l.Pairwise (· < ·) → (∀ x ∈ l, ∀ y ∈ pre, y < x) → againL eqI pre l = false
  | [], _, _, _ => rfl
  | x :: l, pre, h, hp => by
    unfold againL
    have h1 := List.pairwise_cons.1 h
    rw [againI_asc (l := l) (pre := pre ++ [x]) h1.2 (fun y hy z hz => by
      rcases List.mem_append.1 hz with hz | hz
      · exact hp y (by simp [hy]) z hz
      · simp only [List.mem_singleton] at hz; subst hz; exact h1.1 y hy)]
    rw [Bool.or_false, List.any_eq_false]
    intro z hz e
    have := hp x (by simp) z hz
    unfold eqI at e
    rw [beq_iff_eq] at e
    omega
theorem cla_agree {f : Fg} {st : List Int} {rs : List Rp} (hck : checkF (oneC f st rs) = 0) {l : List Int} (hm : ∀ x ∈ l, 0 ≤ x ∧ x < rs.length) (ha : l.Pairwise (· < ·)) : agreeE (oneC f st rs) 0 l = 0 ∧ agreeV (oneC f st rs) 0 l = agreedM (farM (oneC f st rs)) (oneC f st rs) ⟨st, rs⟩ l := by
  obtain ⟨h1, h2⟩ := one_cart (c := ⟨st, rs⟩) hck rfl
  have e : agreeE (oneC f st rs) 0 l = 0 := by
    unfold agreeE
    rw [if_neg (fun x => x h1), h2, againI_asc ha (fun _ _ _ h => by cases h), if_pos]
    · rfl
    · rw [List.all_eq_true]
      exact fun x hx => by rw [inB_iff]; have := hm x hx; dsimp only; omega
  refine ⟨e, ?_⟩
  unfold agreeV
  rw [e, h2]; rfl
set_option maxRecDepth 100000 in
set_option maxHeartbeats 16000000 in
theorem claw_any (A : Option Addr) (l : List Int) (cap : Nat) (tu : Int) (w : World) (hA : Bytes w A l) (hl : ∀ x ∈ l, 0 ≤ x ∧ x ≤ 255) (hlt : ∀ a, A = some a → l = [] ∨ a.block < w.heap.size) (hn : l.length ≤ 9223372036854775807) (htu : 0 ≤ tu ∧ tu ≤ 255) :
    Calls Tryz.prog 9 #[.slice A l.length cap, .int .u8 tu] w fun e w' => e = .returned (.bool true) ∧ Ext w w' := by
  have K1 := hid (pile_any A l cap w hA hl hlt hn)
  clear hA hl hlt hn
  go_enter Tryz.func9, Tryz.ntmps9
  go_wp2_with fail
  refine K1.out.mono ?_
  clear K1
  rintro e w1 ⟨D, rfl, hD, hx1, hh1⟩
  have hDw := hh1.lt
  go_wp2_with fail
  refine (made_any D 6 5 1 w1 hh1 (by decide) (by decide) (by decide) (by decide) (by decide)).mono ?_
  rintro e w2 ⟨v, f, rfl, hMF, hLO, ⟨B, hB, hg⟩, hb2, hh2⟩
  have hx2 : Ext w w2 := hx1.then_bel hD hb2
  obtain ⟨s, xs, rfl, G0⟩ := GSt.start hg hh2 hx2 (by omega) hD
  obtain ⟨w3, hw3⟩ : ∃ w3, w2.alloc (.cells (mcells f s) 28) = w3 := ⟨_, rfl⟩
  obtain ⟨F, hF⟩ : ∃ F, w2.heap.size = F := ⟨_, rfl⟩
  rw [hw3, hF] at G0
  have HMF := hid hMF
  have HLO := hid hLO
  have HW3 := hid hw3
  have HF := hid hF
  unfold mcells at HW3
  clear hg hMF hLO hw3 hF hb2 hh2 hx1 hx2 hh1
  have G0c := G0.cells
  obtain ⟨c0, c1, c2, c3, c4⟩ := G0c
  unfold Ads.val fval
  go_upto_region 3 with fail
  rw [HW3.out, HF.out]
  clear HW3 HF
  go_cut [] (fun wx => ∃ f st rs l s xs, GSt D F (D + 1) w wx (oneC f st rs) s xs ∧ OneF 6 5 (oneC f st rs) st rs l)
  case first =>
    obtain ⟨st, hct⟩ := made_one HMF.out (by decide)
    have HCA : Hid (f.ct[0]? = some ⟨st, []⟩) := by unfold Hid; rw [hct]; rfl
    have HCT := hid hct
    obtain ⟨g, ega, -, -, hFg, -, -⟩ := G0.setRp HCA.out (A := none) (cA := 0) (rs := []) (own_nil _ _ _ _)
    have hh3 := G0.hp
    have hct0 : 0 < f.ct.length := by rw [hct]; simp
    clear hct
    have FX : Hid (∀ w', (Bel D w3 w' ∧ HeapR w' D) → w'.cell? ⟨F, 0, none⟩ = some (.int .i64 f.pl) ∧ w'.cell? ⟨F, 1, none⟩ = some (.int .i64 f.mi) ∧ w'.cell? ⟨F, 2, none⟩ = some (.slice s.a1 f.tr.length s.c1) ∧ w'.cell? ⟨F, 3, none⟩ = some (.slice s.a2 f.bl.length s.c2) ∧ w'.cell? ⟨F, 4, none⟩ = some (.slice (some ⟨g, 0, none⟩) f.ct.length s.c3)) := fun w' h => by
      have q := (G0.bel h.1 h.2).cells
      rw [ega] at q
      exact q
    have HGV : Hid (∀ w', (Bel D w3 w' ∧ HeapR w' D) → OwnG w' (.agg #[.int .i64 f.pl, .int .i64 f.mi, .slice s.a1 f.tr.length s.c1, .slice s.a2 f.bl.length s.c2, .slice (some ⟨g, 0, none⟩) f.ct.length s.c3]) f) := fun w' h => by
      have q := (G0.bel h.1 h.2).g
      unfold Ads.val fval at q
      rw [ega] at q
      exact q
    have KW : Hid (∀ w', (Bel D w3 w' ∧ HeapR w' D) → Calls Tryz.prog 62 #[.pointer (some ⟨D, 0, none⟩), .agg #[.int .i64 f.pl, .int .i64 f.mi, .slice s.a1 f.tr.length s.c1, .slice s.a2 f.bl.length s.c2, .slice (some ⟨g, 0, none⟩) f.ct.length s.c3], .int .i64 0] w' fun e w2 => ∃ l A q, e = .returned (.slice A l.length q) ∧ Bel D w' w2 ∧ HeapR w2 D ∧ RealW f ⟨st, []⟩ l ∧ w2.ownsRow (D + 1) 3 1 (.slice A l.length q) l.length (l.map (.int .i64))) := fun w' h => by
      refine (walked_any D _ f 0 ⟨st, []⟩ w' h.2 (HGV.out w' h) HMF.out.ok HCA.out).mono ?_
      rintro e w2 ⟨l, A, q, B, rfl, hb, hh, hr, hB, ho⟩
      exact ⟨l, A, q, rfl, hb, hh, hr, own_lower ho (by have := h.2.lt; omega)⟩
    have KT : Hid (∀ (l : List Int) (A : Option Addr) (q : Nat) (w' : World), RealW f ⟨st, []⟩ l → w'.ownsRow (D + 1) 3 1 (.slice A l.length q) l.length (l.map (.int .i64)) → (Bel D w3 w' ∧ HeapR w' D) →
        Calls Tryz.prog 63 #[.pointer (some ⟨D, 0, none⟩), .agg #[.int .i64 f.pl, .int .i64 f.mi, .slice s.a1 f.tr.length s.c1, .slice s.a2 f.bl.length s.c2, .slice (some ⟨g, 0, none⟩) f.ct.length s.c3], .slice A l.length q, .int .i64 3] w' (ToldPost D w' f l)) := fun l A q w' hr ho h =>
      told_any D 3 _ f A q l (D + 1) w' h.2 (HGV.out w' h) HMF.out.ok hr.wl ho (by decide)
    obtain ⟨hq0, hq1⟩ : Bel D w3 w3.drew ∧ HeapR w3.drew D := ⟨(Bel.refl D w3).drew, hh3.ext (Ext.drew (Ext.refl _))⟩
    have hFg2 : g ≠ F := fun e => hFg e.symm
    clear c0 c1 c2 c3 c4
    go_region_held3 (fun w' => w'.cell? ⟨F, 0, none⟩ = some (.int .i64 f.pl) ∧ w'.cell? ⟨F, 1, none⟩ = some (.int .i64 f.mi) ∧ w'.cell? ⟨F, 2, none⟩ = some (.slice s.a1 f.tr.length s.c1) ∧ w'.cell? ⟨F, 3, none⟩ = some (.slice s.a2 f.bl.length s.c2) ∧ w'.cell? ⟨F, 4, none⟩ = some (.slice (some ⟨g, 0, none⟩) f.ct.length s.c3))
      (first | exact FX.out _ ⟨hq0, hq1⟩ | exact FX.out _ ⟨Bel.refl _ _, hh3⟩ | exact FX.out _ ⟨hbW', hhW⟩ | exact FX.out _ ⟨hbT', hhT⟩ | (simp [go_sem, *]))
      (first
        | (go_at_call 63; refine (KT.out la _ _ _ hRA hOA ⟨hbW', hhW⟩).mono ?_; rintro e wT ⟨rs, AT, cT, BT, rfl, hbT, hhT, hTR, hBT, hoT⟩; have hbT' := hbW'.trans hbT; have GT := G0.bel hbT' hhT; obtain ⟨⟨u1, p1⟩, fz⟩ := GT.rpOne ega HCA.out; have f1 := fz 1)
        | (go_at_call 62; refine (KW.out _ ⟨hq0, hq1⟩).mono ?_; rintro e wW ⟨la, AW, qW, rfl, hbW, hhW, hRA, hOA⟩; have hbW' := hq0.trans hbW))
    obtain ⟨g1, ea1, GA, -, -, -, -⟩ := GT.setRp HCA.out (own_lower hoT (by have := hbW'.size; have := hh3.lt; omega))
    obtain rfl : g = g1 := by rw [ega] at ea1; injection ea1 with ea1; injection ea1
    rw [with_one HCT.out] at GA
    go_wp2_with fail
    go_meet
    exact ⟨f, st, rs, la, s, _, GA, HMF.out.one_ HCT.out hRA hTR⟩
  case rest =>
    clear G0 HMF HLO c0 c1 c2 c3 c4
    obtain ⟨f, st, rs, l, s, xs, G, H1⟩ := hcut
    obtain ⟨w4, hw4⟩ : ∃ w4 : World, w4 = wc := ⟨_, rfl⟩
    subst hw4
    obtain ⟨g, A1, k1, A2, k2, ega, exs, -, -, -, -⟩ := G.one rfl
    have HE := hid ega
    have HX := hid exs
    clear ega exs
    have H1 := hid H1
    have hcl := cla_first H1.out
    have hrs8 := H1.out.tr.len
    have K0 : Hid (Calls Tryz.prog 32 #[.agg #[.int .i64 f.pl, .int .i64 f.mi, .slice s.a1 f.tr.length s.c1, .slice s.a2 f.bl.length s.c2, .slice (some ⟨g, 0, none⟩) 1 s.c3], .int .i64 0] w4 fun e w' => ∃ r, e = .returned (.tuple #[r, .int .i64 6]) ∧ Ext w4 w') := by
      refine (clashx_any _ (oneC f st rs) 0 w4 (G.g1 HE.out).fg (ok_sized H1.out.ok)).mono ?_
      rintro e w' ⟨r, rfl, h, -⟩
      exact ⟨r, by rw [hcl], h⟩
    clear hcl
    obtain ⟨c0, c1, c2, c3, c4⟩ := G.cells1 HE.out
    go_wp2_with fail
    clear c0 c1 c2 c3 c4
    refine K0.out.mono ?_
    clear K0
    rintro e w5 ⟨r5, rfl, h5⟩
    have G5 := G.out h5
    clear G h5
    obtain ⟨q0, q1, -, -⟩ := G5.oneAt HE.out HX.out rfl
    obtain ⟨c0, c1, c2, c3, c4⟩ := G5.cells1 HE.out
    go_wp2
    clear c0 c1 c2 c3 c4 q0 q1
    go_loopw [47] (fun i47 wr => ∃ (j : Nat) (rs' : List Rp), j ≤ rs.length ∧ i47 = .int .i64 (j : Int) ∧ rs'.map Rp.bl = rs.map Rp.bl ∧ GSt D F (D + 1) w wr (oneC f st rs') s xs) (fun i _ => rs.length - (intOf i).toNat)
    case atStart => exact ⟨0, rs, Nat.zero_le _, rfl, rfl, G5⟩
    case round =>
      obtain ⟨j, rs', hj, rfl, hbl, GR⟩ := hrel
      have hle : rs'.length = rs.length := by have := congrArg List.length hbl; simpa using this
      by_cases hlt : j < rs.length
      · have hlt' : (j : Int) < (rs.length : Int) := by omega
        obtain ⟨r, hr⟩ := get_of_lt rs' j (by omega)
        obtain ⟨q0, q1, -, -⟩ := GR.oneAt HE.out HX.out hle
        obtain ⟨gr, eA, p1, fz, GS, -⟩ := GR.setHd rfl (by rw [HX.out, hle]) hr (!r.hd)
        have f1 := fz (j * 2 + 1)
        obtain ⟨c0, c1, c2, c3, c4⟩ := GR.cells1 HE.out
        subst eA
        have hj1 : j + 1 ≤ rs.length := hlt
        have HB2 := hid (bl_set hbl hr (!r.hd))
        have HBL := hid hbl
        have HGS := hid GS
        have HGR := hid GR
        clear hbl hle hr GS GR fz
        go_wp2
        · go_region
          all_goals go_wp2
          all_goals go_roundw
          case rel => exact ⟨j + 1, _, hj1, by go_num, HB2.out, HGS.out.out (Ext.drew (Ext.refl _))⟩
          case measure => simp [intOf]; omega
        · go_roundw
          case rel => exact ⟨j + 1, _, hj1, by go_num, HBL.out, HGR.out⟩
          case measure => simp [intOf]; omega
      · have hlt' : ¬ (j : Int) < (rs.length : Int) := by omega
        have hok2 := one_bl_ok H1.out.ok hbl
        have hck2 : checkF (oneC f st rs') = 0 := check_of hok2 H1.out.ag
        obtain ⟨hce, hcl⟩ := cla_ok hok2 hck2
        have hrs' : rs'.length ≤ 8 := by rw [hle]; exact hrs8
        have HAG := hid (fun (l : List Int) => cla_agree hck2 (l := l))
        have HSZ := hid (ok_sized hok2)
        have HGV : Hid (∀ w', Ext wr w' → OwnG w' (.agg #[.int .i64 f.pl, .int .i64 f.mi, .slice s.a1 f.tr.length s.c1, .slice s.a2 f.bl.length s.c2, .slice (some ⟨g, 0, none⟩) 1 s.c3]) (oneC f st rs')) := fun w' h => (GR.out h).g1 HE.out
        have FX : Hid (∀ w', Ext wr w' → w'.cell? ⟨F, 0, none⟩ = some (.int .i64 f.pl) ∧ w'.cell? ⟨F, 1, none⟩ = some (.int .i64 f.mi) ∧ w'.cell? ⟨F, 2, none⟩ = some (.slice s.a1 f.tr.length s.c1) ∧ w'.cell? ⟨F, 3, none⟩ = some (.slice s.a2 f.bl.length s.c2) ∧ w'.cell? ⟨F, 4, none⟩ = some (.slice (some ⟨g, 0, none⟩) 1 s.c3)) := fun w' h => (GR.out h).cells1 HE.out
        have HEND : Hid (∀ w', Ext wr w' → Ext w w') := fun w' h => GR.ext.trans h
        have P13 := countx_any _ (oneC f st rs') 0 wr (HGV.out wr (Ext.refl _)).fg HSZ.out
        have P14 := hid (fun w' (h : Ext wr w') => clashx_any _ (oneC f st rs') 0 w' (HGV.out w' h).fg HSZ.out)
        have P15 := hid (fun w' (h : Ext wr w') => at_any _ (oneC f st rs') 0 0 w' (HGV.out w' h).fg HSZ.out)
        unfold ClashPost at P14
        unfold AtPost at P15
        rw [hce] at P13
        obtain ⟨N, hN⟩ : ∃ N, countV (oneC f st rs') 0 = N := ⟨_, rfl⟩
        obtain ⟨CE, hCE⟩ : ∃ N, clashE (oneC f st rs') 0 = N := ⟨_, rfl⟩
        obtain ⟨AE, hAE⟩ : ∃ N, atE (oneC f st rs') 0 0 = N := ⟨_, rfl⟩
        obtain ⟨L, hL⟩ : ∃ N, clashL (oneC f st rs') 0 = N := ⟨_, rfl⟩
        rw [hN, hCE, hAE, hL] at hcl
        rw [hN] at P13
        rw [hCE, hL] at P14
        rw [hAE] at P15
        have HCL := hid hcl.or_
        have K13 := hid P13
        clear P13 hcl hN hCE hAE hL hce hck2 hok2 hbl hle GR G5
        obtain ⟨c0, c1, c2, c3, c4⟩ := FX.out wr (Ext.refl _)
        go_wp2_with fail
        clear c0 c1 c2 c3 c4
        refine K13.out.mono ?_
        clear K13
        rintro e w6 ⟨rfl, h6⟩
        obtain ⟨c0, c1, c2, c3, c4⟩ := FX.out w6 h6
        go_wp2_with fail
        clear c0 c1 c2 c3 c4
        refine (P14.out w6 h6).mono ?_
        clear P14
        rintro e w7 ⟨r7, rfl, h7', A7, k7, rfl, hI7, hk7⟩
        have h7 := h6.trans h7'
        clear h6 h7'
        obtain ⟨c0, c1, c2, c3, c4⟩ := FX.out w7 h7
        go_wp2_with fail
        clear c0 c1 c2 c3 c4
        refine (P15.out w7 h7).mono ?_
        clear P15
        rintro e w8 ⟨r8, rfl, h8', -⟩
        have h8 := h7.trans h8'
        have HI8 := hid (hI7.ext h8')
        clear h7 h8' hI7
        obtain ⟨c0, c1, c2, c3, c4⟩ := FX.out w8 h8
        rcases HCL.out with ⟨rfl, rfl, rfl, hC⟩ | ⟨hn0, rfl, rfl, rfl⟩
        · clear HCL
          have hpos : 0 < L.length := hC.pos
          have hL8 : L.length ≤ 8 := Nat.le_trans hC.len hrs'
          have HC := hid hC
          have P20 := agree_any _ (oneC f st rs') 0 A7 k7 L w8 (HGV.out w8 h8).fg HSZ.out HI8.out (by omega) hk7
          obtain ⟨g1, g2⟩ := HAG.out L hC.mem hC.asc
          rw [g1, g2, hC.no] at P20
          have K20 := hid P20
          clear P20 g1 g2 hC
          go_wp2_with fail
          clear c0 c1 c2 c3 c4
          refine K20.out.mono ?_
          clear K20
          rintro e w9 ⟨rfl, h9'⟩
          have h9 := h8.trans h9'
          have HI9 := hid (HI8.out.ext h9')
          clear h8 h9' HI8
          go_wp2
          go_loopw [137] (fun i137 wr => ∃ j : Nat, j ≤ L.length ∧ i137 = .int .i64 (j : Int) ∧ Ext w9 wr) (fun i _ => L.length - (intOf i).toNat)
          case atStart => exact ⟨0, Nat.zero_le _, rfl, Ext.refl _⟩
          case round =>
            obtain ⟨m, hm, rfl, hxv⟩ := hrel
            have hv := h9.trans hxv
            by_cases hlt : m < L.length
            · have hmt : (m : Int) < (L.length : Int) := by omega
              have hm1 : m + 1 ≤ L.length := hlt
              have hA := HC.out
              have h3 : (L.eraseIdx m).length ≤ 8 := by rw [List.length_eraseIdx]; split <;> omega
              have HSUB : Hid (agreeE (oneC f st rs') 0 (L.eraseIdx m) = 0 ∧ agreeV (oneC f st rs') 0 (L.eraseIdx m) = true) := by
                obtain ⟨g1, g2⟩ := HAG.out (L.eraseIdx m) (fun x hx => hA.mem x (List.mem_of_mem_eraseIdx hx)) (hA.asc.sublist (List.eraseIdx_sublist _ _))
                exact ⟨g1, by rw [g2]; exact hA.yes m hlt⟩
              obtain ⟨EL, hEL⟩ : ∃ EL, L.eraseIdx m = EL := ⟨_, rfl⟩
              rw [hEL] at HSUB h3
              have hEL8 : EL.length ≤ 1000 := by omega
              have KC : Hid (∀ w', Ext wr w' → Calls Tryz.prog 68 #[.slice A7 L.length k7] w' fun e w2 => ∃ g c, e = .returned (.slice (some ⟨g, 0, none⟩) L.length c) ∧ w2.ownsRow wr.heap.size 3 1 (.slice (some ⟨g, 0, none⟩) L.length c) L.length (L.map (.int .i64)) ∧ Ext wr w2) := fun w' h => by
                refine (clone_int A7 k7 L w' (HI9.out.ext (hxv.trans h)) (by omega)).mono ?_
                rintro e w2 ⟨A', c', rfl, ho, -, hx⟩
                rcases ho.2 with ⟨e, e0⟩ | ⟨g, cap, cur, e, _⟩
                · omega
                · simp only [Value.slice.injEq, true_and] at e
                  obtain ⟨rfl, rfl⟩ := e
                  exact ⟨g, c', rfl, own_lower ho h.size, h.trans hx⟩
              have KD : Hid (∀ g c w', w'.ownsRow wr.heap.size 3 1 (.slice (some ⟨g, 0, none⟩) L.length c) L.length (L.map (.int .i64)) → Ext wr w' → Calls Tryz.prog 67 #[.slice (some ⟨g, 0, none⟩) L.length c, .int .i64 (m : Int), .int .i64 ((m : Int) + 1)] w' fun e w2 => e = .returned (.slice (some ⟨g, 0, none⟩) EL.length c) ∧ w2.ownsRow wr.heap.size 3 1 (.slice (some ⟨g, 0, none⟩) EL.length c) EL.length (EL.map (.int .i64)) ∧ Ext wr w2) := fun g c w' ho h => by
                rw [← hEL]
                exact delete_any wr g c m L w' ho h hlt
              have KA : Hid (∀ gg c w', w'.ownsRow wr.heap.size 3 1 (.slice (some ⟨gg, 0, none⟩) EL.length c) EL.length (EL.map (.int .i64)) → Ext wr w' → Calls Tryz.prog 31 #[.agg #[.int .i64 f.pl, .int .i64 f.mi, .slice s.a1 f.tr.length s.c1, .slice s.a2 f.bl.length s.c2, .slice (some ⟨g, 0, none⟩) 1 s.c3], .int .i64 0, .slice (some ⟨gg, 0, none⟩) EL.length c] w' fun e w2 => e = .returned (.tuple #[.bool true, .int .i64 0]) ∧ Ext wr w2) := fun gg c w' ho h => by
                obtain ⟨s1, s2⟩ := HSUB.out
                refine (agree_any _ (oneC f st rs') 0 (some ⟨gg, 0, none⟩) c EL w' (HGV.out w' (hv.trans h)).fg HSZ.out (Rd.of_own ho) hEL8 (own_cap ho)).mono ?_
                intro e w2 ⟨e1, hx⟩
                exact ⟨by rw [e1, s1, s2], h.trans hx⟩
              have FV : Hid (∀ w', Ext wr w' → w'.cell? ⟨F, 0, none⟩ = some (.int .i64 f.pl) ∧ w'.cell? ⟨F, 1, none⟩ = some (.int .i64 f.mi) ∧ w'.cell? ⟨F, 2, none⟩ = some (.slice s.a1 f.tr.length s.c1) ∧ w'.cell? ⟨F, 3, none⟩ = some (.slice s.a2 f.bl.length s.c2) ∧ w'.cell? ⟨F, 4, none⟩ = some (.slice (some ⟨g, 0, none⟩) 1 s.c3)) := fun w' h => FX.out w' (hv.trans h)
              obtain ⟨c0, c1, c2, c3, c4⟩ := FV.out wr (Ext.refl _)
              have hq0 : Ext wr wr.drew := Ext.drew (Ext.refl _)
              have hq1 := Ext.refl wr
              have HMW : Hid (IntKind.i64.wrap ((m : Int) + 1) = (m : Int) + 1) := IntWalk.i64_in _ ⟨by omega, by omega⟩
              clear hEL hA h3 HC HAG HSUB hEL8 c0 c1 c2 c3 c4
              go_wp2
              go_region_held3 (fun w' => w'.cell? ⟨F, 0, none⟩ = some (.int .i64 f.pl) ∧ w'.cell? ⟨F, 1, none⟩ = some (.int .i64 f.mi) ∧ w'.cell? ⟨F, 2, none⟩ = some (.slice s.a1 f.tr.length s.c1) ∧ w'.cell? ⟨F, 3, none⟩ = some (.slice s.a2 f.bl.length s.c2) ∧ w'.cell? ⟨F, 4, none⟩ = some (.slice (some ⟨g, 0, none⟩) 1 s.c3))
                (first | exact FV.out _ hq0 | exact FV.out _ hq1 | exact FV.out _ hxC | exact FV.out _ hxD | exact FV.out _ hxA)
                (first
                  | (go_at_call 31; refine (KA.out gC cC _ hoD hxD).mono ?_; rintro e wA ⟨rfl, hxA⟩)
                  | (go_at_call 67; rw [HMW.out]; refine (KD.out gC cC _ hoC hxC).mono ?_; rintro e wD ⟨rfl, hoD, hxD⟩)
                  | (go_at_call 68; refine (KC.out _ hq0).mono ?_; rintro e wC ⟨gC, cC, rfl, hoC, hxC⟩))
              have hxN := hxv.trans hxA
              go_wp2
              go_roundw
              case rel => exact ⟨m + 1, hm1, by go_num, hxN⟩
              case measure => simp [intOf]; omega
            · have hmt : ¬ (m : Int) < (L.length : Int) := by omega
              go_wp2_with fail
              refine (awake_any wr).mono ?_
              rintro e w16 ⟨rfl, h16⟩
              have hfin := HEND.out _ (hv.trans h16)
              go_wp2
              go_ret
              exact ⟨rfl, hfin⟩
        · have bN : (N == 0) = false := by simpa using hn0
          simp only [List.length_nil] at *
          go_wp2_with fail
          refine (awake_any w8).mono ?_
          rintro e w16 ⟨rfl, h16⟩
          have hfin := HEND.out _ (h8.trans h16)
          go_wp2
          go_ret
          exact ⟨rfl, hfin⟩
end Go.Proofs.YtpbpcplboikpcaaGreat
