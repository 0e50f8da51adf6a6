/- The walk of FogAsked. Printed by my gen_fasd.py. -/
import Derived.Test.YtpbpcplboikpcaaGreatFGSt
import Derived.Test.YtpbpcplboikpcaaGreatFMade
import Derived.Test.YtpbpcplboikpcaaGreatFTold
import Derived.Test.YtpbpcplboikpcaaGreatFTripP
import Derived.Test.YtpbpcplboikpcaaGreatG5
import Derived.Deep.DeepCutAuto
import Derived.Deep.CutBlock
import Derived.Test.YtpbpcplboikpcaaGreatFOne
import Derived.Test.YtpbpcplboikpcaaGreatFFouP
import Derived.Test.YtpbpcplboikpcaaGreatFDelP
import Derived.Test.YtpbpcplboikpcaaGreatFRing
import Derived.Test.YtpbpcplboikpcaaGreatGa
import Derived.Deep.RegionHeld3
namespace Go.Proofs.YtpbpcplboikpcaaGreat
open Go Go.RowKit Go.Shelf
set_option linter.unusedVariables false
set_option linter.unusedSimpArgs false

/-- What FogAsked is told of a fog. -/
structure AsdOK (f : Fg) (st : List Int) (rs : List Rp) (I Y : Nat) (LX : List Int) (b : Nat) : Prop where
  at0 : atE (oneC f st rs) 0 (I : Int) = 0 ∧ atL (oneC f st rs) 0 (I : Int) = LX
  pl0 : placedE (oneC f st rs) 0 (I : Int) (Y : Int) = 0
  ask : askV (oneC f st rs) 0 (I : Int) (Y : Int) = ((b : Int), mostN (heardH (farM (oneC f st rs)) (Y : Int)) LX b)
  lt : b < f.pl.toNat
  lo : ∀ p, p < f.pl.toNat → mostN (heardH (farM (oneC f st rs)) (Y : Int)) LX b ≤ mostN (heardH (farM (oneC f st rs)) (Y : Int)) LX p
  fst : ∀ p, p < b → mostN (heardH (farM (oneC f st rs)) (Y : Int)) LX b < mostN (heardH (farM (oneC f st rs)) (Y : Int)) LX p
  mem : ∀ x ∈ LX, 0 ≤ x ∧ x < f.pl
  len : LX.length ≤ 8
  dec : decideE (oneC f st rs) 0 (I : Int) (Y : Int) = 6 ∨ (decideE (oneC f st rs) 0 (I : Int) (Y : Int) = 0 ∧ DecOK (oneC f st rs) LX (Y : Int) (decideL (oneC f st rs) 0 (I : Int) (Y : Int)))
  apart : ∀ d : List Int, (∀ x ∈ d, 0 ≤ x ∧ x < f.pl) → apartE (oneC f st rs) 0 (I : Int) (loudM d (Y : Int)) = 0 ∧ apartL (oneC f st rs) 0 (I : Int) (loudM d (Y : Int)) = pairsM (farM (oneC f st rs)) (loudM d (Y : Int)) LX
theorem asd_ok {P M : Nat} {f : Fg} {st : List Int} {rs : List Rp} {l : List Int} (h : OneF P M (oneC f st rs) st rs l) {I Y : Nat} (hI : I ≤ f.mi.toNat) (hY : Y ≤ 7) : ∃ LX b, AsdOK f st rs I Y LX b := by
  obtain ⟨z1, z2⟩ := one_cart (c := ⟨st, rs⟩) h.check rfl
  have hf := h.found
  have hmi : 0 ≤ f.mi ∧ f.mi ≤ 8 := h.ok.mi
  have hpl : 1 ≤ f.pl ∧ f.pl ≤ 8 := h.ok.pl
  have hmo : miOK (oneC f st rs) (I : Int) = true := by
    unfold miOK
    rw [inB_iff]
    have e1 : (oneC f st rs).mi = f.mi := rfl
    rw [e1]; omega
  have hyo : inB (Y : Int) 0 7 = true := by rw [inB_iff]; omega
  have hat : atE (oneC f st rs) 0 (I : Int) = 0 := by unfold atE; rw [if_neg (fun x => x z1), hmo, z2, hf]; rfl
  obtain ⟨LX, hLX⟩ : ∃ LX, natI (canN (farM (oneC f st rs)) (oneC f st rs) ⟨st, rs⟩ I) = LX := ⟨_, rfl⟩
  have hal : atL (oneC f st rs) 0 (I : Int) = LX := by unfold atL; rw [if_pos hat, z2, Int.toNat_natCast, hLX]
  have hpe : placedE (oneC f st rs) 0 (I : Int) (Y : Int) = 0 := by unfold placedE; rw [if_neg (fun x => x z1), hmo, hyo, z2, hf]; rfl
  have hpL : placedL (oneC f st rs) 0 (I : Int) (Y : Int) = LX := by unfold placedL; rw [if_pos hpe, z2, Int.toNat_natCast, hLX]
  obtain ⟨b, b1, b2, b3, b4⟩ := askS_spec (heardH (farM (oneC f st rs)) (Y : Int)) LX f.pl.toNat (by omega)
  have hask : askV (oneC f st rs) 0 (I : Int) (Y : Int) = ((b : Int), mostN (heardH (farM (oneC f st rs)) (Y : Int)) LX b) := by
    unfold askV
    rw [if_pos hpe, hpL]
    exact b2
  have hmem : ∀ x ∈ LX, 0 ≤ x ∧ x < f.pl := fun x hx => by
    rw [← hLX] at hx
    unfold natI at hx
    obtain ⟨p, hp, rfl⟩ := List.mem_map.1 hx
    have h1 := can_lt (f := oneC f st rs) hI hp
    have e1 : (oneC f st rs).pl = f.pl := rfl
    rw [e1] at h1
    omega
  refine ⟨LX, b, ⟨hat, hal⟩, hpe, hask, b1, b3, b4, hmem, by rw [← hLX]; exact (canN_lt h.ok.pl.2 I).2, ?_, fun d hd => ?_⟩
  · cases e : decideM (farM (oneC f st rs)) (oneC f st rs) LX (Y : Int) with
    | none =>
      left
      unfold decideE
      rw [if_neg (fun x => x hpe), hpL, e]; rfl
    | some d =>
      right
      have hE : decideE (oneC f st rs) 0 (I : Int) (Y : Int) = 0 := by unfold decideE; rw [if_neg (fun x => x hpe), hpL, e]; rfl
      refine ⟨hE, ?_⟩
      unfold decideL
      rw [if_pos hE, hpL, e]
      exact decide_some h.ok e
  · have hE : apartE (oneC f st rs) 0 (I : Int) (loudM d (Y : Int)) = 0 := by
      unfold apartE
      rw [if_neg (fun x => x z1), hmo, if_pos rfl, if_pos, if_pos, z2, hf]
      · rfl
      · rw [List.all_eq_true]
        intro x hx
        rw [(loud_mem.1 hx).2]; exact hyo
      · rw [List.all_eq_true]
        intro x hx
        have := hd _ (loud_mem.1 hx).1
        unfold plOK
        rw [inB_iff]
        have e1 : (oneC f st rs).pl = f.pl := rfl
        rw [e1]; omega
    refine ⟨hE, ?_⟩
    unfold apartL
    rw [if_pos hE, z2, Int.toNat_natCast, hLX]
theorem ring_heard {f : Fg} (h : FogOK f) {p q Y : Nat} (hp : p < f.pl.toNat) (hq : q < f.pl.toNat) (hY : Y ≤ 7) : ringN f p Y q = heardH (farM f) (Y : Int) p (q : Int) := by
  have hpl := h.pl
  rw [ringN_is h (by omega) (by omega) (by omega)]
  unfold heardH heardM
  simp only [Int.toNat_natCast]
theorem Nat.mod_at {n : Int} {t : Int} (hn : 0 < n) (ht : 0 ≤ t) : ∃ I : Nat, t.tmod n = (I : Int) ∧ (I : Int) < n := by
  have h1 := Int.tmod_nonneg n ht
  exact ⟨(t.tmod n).toNat, (Int.toNat_of_nonneg h1).symm, by rw [Int.toNat_of_nonneg h1]; exact Int.tmod_lt_of_pos t hn⟩
set_option maxRecDepth 100000 in
set_option maxHeartbeats 16000000 in
theorem asdw_any (A : Option Addr) (l : List Int) (cap : Nat) (tu tv : Int) (w : World) (hA : Bytes w A l) (hl : ∀ x ∈ l, 0 ≤ x ∧ x ≤ 255) (hlt : ∀ a, A = some a → l = [] ∨ a.block < w.heap.size) (hn : l.length ≤ 9223372036854775807) (htu : 0 ≤ tu ∧ tu ≤ 255) (htv : 0 ≤ tv ∧ tv ≤ 255) :
    Calls Tryz.prog 12 #[.slice A l.length cap, .int .u8 tu, .int .u8 tv] w fun e w' => e = .returned (.bool true) ∧ Ext w w' := by
  have K1 := hid (pile_any A l cap w hA hl hlt hn)
  clear hA hl hlt hn
  go_enter Tryz.func12, Tryz.ntmps12
  go_wp2_with fail
  refine K1.out.mono ?_
  clear K1
  rintro e w1 ⟨D, rfl, hD, hx1, hh1⟩
  have hDw := hh1.lt
  go_wp2_with fail
  refine (made_any D 7 5 1 w1 hh1 (by decide) (by decide) (by decide) (by decide) (by decide)).mono ?_
  rintro e w2 ⟨v, f, rfl, hMF, hLO, ⟨B, hB, hg⟩, hb2, hh2⟩
  have hx2 : Ext w w2 := hx1.then_bel hD hb2
  obtain ⟨s, xs, rfl, G0⟩ := GSt.start hg hh2 hx2 (by omega) hD
  obtain ⟨w3, hw3⟩ : ∃ w3, w2.alloc (.cells (mcells f s) 28) = w3 := ⟨_, rfl⟩
  obtain ⟨F, hF⟩ : ∃ F, w2.heap.size = F := ⟨_, rfl⟩
  rw [hw3, hF] at G0
  have HMF := hid hMF
  have HLO := hid hLO
  have HW3 := hid hw3
  have HF := hid hF
  unfold mcells at HW3
  clear hg hMF hLO hw3 hF hb2 hh2 hx1 hx2 hh1
  have G0c := G0.cells
  obtain ⟨c0, c1, c2, c3, c4⟩ := G0c
  unfold Ads.val fval
  go_upto_region 3 with fail
  rw [HW3.out, HF.out]
  clear HW3 HF
  go_cut [] (fun wx => ∃ f st rs l s xs, GSt D F (D + 1) w wx (oneC f st rs) s xs ∧ OneF 7 5 (oneC f st rs) st rs l)
  case first =>
    obtain ⟨st, hct⟩ := made_one HMF.out (by decide)
    have HCA : Hid (f.ct[0]? = some ⟨st, []⟩) := by unfold Hid; rw [hct]; rfl
    have HCT := hid hct
    obtain ⟨g, ega, -, -, hFg, -, -⟩ := G0.setRp HCA.out (A := none) (cA := 0) (rs := []) (own_nil _ _ _ _)
    have hh3 := G0.hp
    have hct0 : 0 < f.ct.length := by rw [hct]; simp
    clear hct
    have FX : Hid (∀ w', (Bel D w3 w' ∧ HeapR w' D) → w'.cell? ⟨F, 0, none⟩ = some (.int .i64 f.pl) ∧ w'.cell? ⟨F, 1, none⟩ = some (.int .i64 f.mi) ∧ w'.cell? ⟨F, 2, none⟩ = some (.slice s.a1 f.tr.length s.c1) ∧ w'.cell? ⟨F, 3, none⟩ = some (.slice s.a2 f.bl.length s.c2) ∧ w'.cell? ⟨F, 4, none⟩ = some (.slice (some ⟨g, 0, none⟩) f.ct.length s.c3)) := fun w' h => by
      have q := (G0.bel h.1 h.2).cells
      rw [ega] at q
      exact q
    have HGV : Hid (∀ w', (Bel D w3 w' ∧ HeapR w' D) → OwnG w' (.agg #[.int .i64 f.pl, .int .i64 f.mi, .slice s.a1 f.tr.length s.c1, .slice s.a2 f.bl.length s.c2, .slice (some ⟨g, 0, none⟩) f.ct.length s.c3]) f) := fun w' h => by
      have q := (G0.bel h.1 h.2).g
      unfold Ads.val fval at q
      rw [ega] at q
      exact q
    have KW : Hid (∀ w', (Bel D w3 w' ∧ HeapR w' D) → Calls Tryz.prog 62 #[.pointer (some ⟨D, 0, none⟩), .agg #[.int .i64 f.pl, .int .i64 f.mi, .slice s.a1 f.tr.length s.c1, .slice s.a2 f.bl.length s.c2, .slice (some ⟨g, 0, none⟩) f.ct.length s.c3], .int .i64 0] w' fun e w2 => ∃ l A q, e = .returned (.slice A l.length q) ∧ Bel D w' w2 ∧ HeapR w2 D ∧ RealW f ⟨st, []⟩ l ∧ w2.ownsRow (D + 1) 3 1 (.slice A l.length q) l.length (l.map (.int .i64))) := fun w' h => by
      refine (walked_any D _ f 0 ⟨st, []⟩ w' h.2 (HGV.out w' h) HMF.out.ok HCA.out).mono ?_
      rintro e w2 ⟨l, A, q, B, rfl, hb, hh, hr, hB, ho⟩
      exact ⟨l, A, q, rfl, hb, hh, hr, own_lower ho (by have := h.2.lt; omega)⟩
    have KT : Hid (∀ (l : List Int) (A : Option Addr) (q : Nat) (w' : World), RealW f ⟨st, []⟩ l → w'.ownsRow (D + 1) 3 1 (.slice A l.length q) l.length (l.map (.int .i64)) → (Bel D w3 w' ∧ HeapR w' D) →
        Calls Tryz.prog 63 #[.pointer (some ⟨D, 0, none⟩), .agg #[.int .i64 f.pl, .int .i64 f.mi, .slice s.a1 f.tr.length s.c1, .slice s.a2 f.bl.length s.c2, .slice (some ⟨g, 0, none⟩) f.ct.length s.c3], .slice A l.length q, .int .i64 2] w' (ToldPost D w' f l)) := fun l A q w' hr ho h =>
      told_any D 2 _ f A q l (D + 1) w' h.2 (HGV.out w' h) HMF.out.ok hr.wl ho (by decide)
    obtain ⟨hq0, hq1⟩ : Bel D w3 w3.drew ∧ HeapR w3.drew D := ⟨(Bel.refl D w3).drew, hh3.ext (Ext.drew (Ext.refl _))⟩
    have hFg2 : g ≠ F := fun e => hFg e.symm
    clear c0 c1 c2 c3 c4
    go_region_held3 (fun w' => w'.cell? ⟨F, 0, none⟩ = some (.int .i64 f.pl) ∧ w'.cell? ⟨F, 1, none⟩ = some (.int .i64 f.mi) ∧ w'.cell? ⟨F, 2, none⟩ = some (.slice s.a1 f.tr.length s.c1) ∧ w'.cell? ⟨F, 3, none⟩ = some (.slice s.a2 f.bl.length s.c2) ∧ w'.cell? ⟨F, 4, none⟩ = some (.slice (some ⟨g, 0, none⟩) f.ct.length s.c3))
      (first | exact FX.out _ ⟨hq0, hq1⟩ | exact FX.out _ ⟨Bel.refl _ _, hh3⟩ | exact FX.out _ ⟨hbW', hhW⟩ | exact FX.out _ ⟨hbT', hhT⟩ | (simp [go_sem, *]))
      (first
        | (go_at_call 63; refine (KT.out la _ _ _ hRA hOA ⟨hbW', hhW⟩).mono ?_; rintro e wT ⟨rs, AT, cT, BT, rfl, hbT, hhT, hTR, hBT, hoT⟩; have hbT' := hbW'.trans hbT; have GT := G0.bel hbT' hhT; obtain ⟨⟨u1, p1⟩, fz⟩ := GT.rpOne ega HCA.out; have f1 := fz 1)
        | (go_at_call 62; refine (KW.out _ ⟨hq0, hq1⟩).mono ?_; rintro e wW ⟨la, AW, qW, rfl, hbW, hhW, hRA, hOA⟩; have hbW' := hq0.trans hbW))
    obtain ⟨g1, ea1, GA, -, -, -, -⟩ := GT.setRp HCA.out (own_lower hoT (by have := hbW'.size; have := hh3.lt; omega))
    obtain rfl : g = g1 := by rw [ega] at ea1; injection ea1 with ea1; injection ea1
    rw [with_one HCT.out] at GA
    go_wp2_with fail
    go_meet
    exact ⟨f, st, rs, la, s, _, GA, HMF.out.one_ HCT.out hRA hTR⟩
  case rest =>
    clear G0 HMF HLO c0 c1 c2 c3 c4
    obtain ⟨f, st, rs, la, s, xs, G, H1⟩ := hcut
    obtain ⟨w4, hw4⟩ : ∃ w4 : World, w4 = wc := ⟨_, rfl⟩
    subst hw4
    obtain ⟨g, A1', k1', A2', k2', ega, -⟩ := G.one rfl
    have HE := hid ega
    have H1 := hid H1
    clear ega
    have hmi : 0 ≤ f.mi ∧ f.mi ≤ 8 := H1.out.ok.mi
    have hpl : 1 ≤ f.pl ∧ f.pl ≤ 8 := H1.out.ok.pl
    obtain ⟨I, hI, hI2⟩ := Nat.mod_at (n := f.mi + 1) (by omega) htu.1
    obtain ⟨Y, hY, hY2⟩ := Nat.mod_at (n := 8) (by decide) htv.1
    have hY7 : Y ≤ 7 := by omega
    obtain ⟨LX, b, hA⟩ := asd_ok H1.out (I := I) (Y := Y) (by omega) hY7
    have HSZ := hid (ok_sized H1.out.ok)
    have HOK := hid H1.out.ok
    have HA := hid hA
    have HEX := hid G.ext
    have FX4 : Hid (∀ w', Ext w4 w' → w'.cell? ⟨F, 0, none⟩ = some (.int .i64 f.pl) ∧ w'.cell? ⟨F, 1, none⟩ = some (.int .i64 f.mi) ∧ w'.cell? ⟨F, 2, none⟩ = some (.slice s.a1 f.tr.length s.c1) ∧ w'.cell? ⟨F, 3, none⟩ = some (.slice s.a2 f.bl.length s.c2) ∧ w'.cell? ⟨F, 4, none⟩ = some (.slice (some ⟨g, 0, none⟩) 1 s.c3)) := fun w' h => (G.out h).cells1 HE.out
    have HGV : Hid (∀ w', Ext w4 w' → FgR w' (.agg #[.int .i64 f.pl, .int .i64 f.mi, .slice s.a1 f.tr.length s.c1, .slice s.a2 f.bl.length s.c2, .slice (some ⟨g, 0, none⟩) 1 s.c3]) (oneC f st rs)) := fun w' h => ((G.out h).g1 HE.out).fg
    obtain ⟨MO, hMO⟩ : ∃ MO, mostN (heardH (farM (oneC f st rs)) (Y : Int)) LX b = MO := ⟨_, rfl⟩
    have P5 := at_any _ (oneC f st rs) 0 (I : Int) w4 (HGV.out w4 (Ext.refl _)) HSZ.out
    have P6 := hid (fun w' (h : Ext w4 w') => askx_any _ (oneC f st rs) 0 (I : Int) (Y : Int) w' (HGV.out w' h) HSZ.out)
    have P25 := hid (fun w' (h : Ext w4 w') => decidex_any _ (oneC f st rs) 0 (I : Int) (Y : Int) w' (HGV.out w' h) HSZ.out)
    unfold AtPost at P5
    unfold DecidePost at P25
    rw [hA.at0.1, hA.at0.2] at P5
    rw [hA.ask, hA.pl0, hMO] at P6
    have P5 := hid P5
    have HLO : Hid (∀ p, p < f.pl.toNat → MO ≤ mostN (heardH (farM (oneC f st rs)) (Y : Int)) LX p ∧ (p < b → MO < mostN (heardH (farM (oneC f st rs)) (Y : Int)) LX p) ∧ (p = b → mostN (heardH (farM (oneC f st rs)) (Y : Int)) LX p = MO)) := fun p hp => by
      rw [← hMO]
      exact ⟨hA.lo p hp, hA.fst p, fun e => by rw [e]⟩
    have hb1 : ¬ f.pl ≤ (b : Int) := by have := hA.lt; omega
    have hb2 : ¬ (b : Int) < 0 := by omega
    have hlen := hA.len
    have hnz : ¬ f.mi + 1 = 0 := by omega
    clear hA hMO
    obtain ⟨c0, c1, c2, c3, c4⟩ := FX4.out w4 (Ext.refl _)
    go_wp2_with fail
    clear c0 c1 c2 c3 c4
    refine P5.out.mono ?_
    clear P5
    rintro e w5 ⟨r, rfl, h5, A1, k1, rfl, hI5, -⟩
    obtain ⟨c0, c1, c2, c3, c4⟩ := FX4.out w5 h5
    go_wp2_with fail
    clear c0 c1 c2 c3 c4
    refine (P6.out w5 h5).mono ?_
    clear P6
    rintro e w6 ⟨rfl, h6'⟩
    have h6 := h5.trans h6'
    have HI6 := hid (hI5.ext h6')
    clear hI5 h5 h6'
    obtain ⟨c0, c1, c2, c3, c4⟩ := FX4.out w6 h6
    go_wp2
    clear c0 c1 c2 c3 c4
    go_loopw [87] (fun i87 wr => ∃ p : Nat, (p : Int) ≤ f.pl ∧ i87 = .int .i64 (p : Int) ∧ Ext w6 wr) (fun i _ => f.pl.toNat - (intOf i).toNat)
    case atStart => exact ⟨0, by omega, rfl, Ext.refl _⟩
    case round =>
      obtain ⟨p, hp, rfl, hxr⟩ := hrel
      by_cases hlt : (p : Int) < f.pl
      · have hpn : p < f.pl.toNat := by omega
        have hpN : ((p + 1 : Nat) : Int) ≤ f.pl := by omega
        obtain ⟨wo, hwo⟩ : ∃ wo : World, wo = wr := ⟨_, rfl⟩
        subst hwo
        go_wp2
        go_loopw [17, 92] (fun s17 i92 wr => ∃ j : Nat, j ≤ LX.length ∧ i92 = .int .i64 (j : Int) ∧ s17 = .int .i64 (yesM (heardH (farM (oneC f st rs)) (Y : Int) p) (LX.take j)) ∧ Ext wo wr) (fun _ i _ => LX.length - (intOf i).toNat)
        case atStart => exact ⟨0, Nat.zero_le _, rfl, by simp [yesM], Ext.refl _⟩
        case round =>
          obtain ⟨j, hj, rfl, rfl, hxi⟩ := hrel
          have h4i := h6.trans (hxr.trans hxi)
          by_cases hjl : j < LX.length
          · have hjI : (j : Int) < (LX.length : Int) := by omega
            have hj1 : j + 1 ≤ LX.length := hjl
            obtain ⟨x, hx⟩ := get_of_lt LX j hjl
            have hxb := HA.out.mem x (mem_of_get hx)
            obtain ⟨q, rfl⟩ : ∃ q : Nat, x = (q : Int) := ⟨x.toNat, by omega⟩
            have hqn : q < f.pl.toNat := by omega
            obtain ⟨b7, o7, e7, g7⟩ := Ints.at_ (HI6.out.ext (hxr.trans hxi)) hx
            have HSN := hid (yes_next (h := heardH (farM (oneC f st rs)) (Y : Int) p) hx)
            obtain ⟨BH, hBH⟩ : ∃ BH, heardH (farM (oneC f st rs)) (Y : Int) p (q : Int) = BH := ⟨_, rfl⟩
            have hrh := ring_heard HOK.out (p := p) (q := q) (Y := Y) hpn hqn hY7
            rw [hBH] at hrh
            have HRH := hid hrh
            have hyl := yes_le (heardH (farM (oneC f st rs)) (Y : Int) p) (LX.take j)
            obtain ⟨T, hT⟩ : ∃ T, yesM (heardH (farM (oneC f st rs)) (Y : Int) p) (LX.take j) = T := ⟨_, rfl⟩
            rw [hBH] at HSN
            rw [hT] at HSN hyl ⊢
            have hT8 : 0 ≤ T ∧ T ≤ 8 := by
              have := List.length_take_le j LX
              omega
            obtain ⟨PN, hPN⟩ : ∃ PN, f.pl.toNat = PN := ⟨_, rfl⟩
            have K18 : Hid (Calls Tryz.prog 75 #[.agg #[.int .i64 f.pl, .int .i64 f.mi, .slice s.a1 f.tr.length s.c1, .slice s.a2 f.bl.length s.c2, .slice (some ⟨g, 0, none⟩) 1 s.c3], .int .i64 (p : Int), .int .i64 (Y : Int)] wr fun e w2 => ∃ B, e = .returned (.slice (some ⟨B, 0, none⟩) PN PN) ∧ Ext wr w2 ∧ w2.cell? ⟨B, q, none⟩ = some (.bool BH)) := by
              refine (ring_any _ (oneC f st rs) p Y wr (HGV.out wr h4i) HOK.out hpn (by omega)).mono ?_
              rintro e w2 ⟨B, rfl, hx2, hbr⟩
              refine ⟨B, by rw [← hPN]; rfl, hx2, ?_⟩
              exact hbr.at_ (k := q) (x := BH) (by
                have e1 := rl_get (n := (oneC f st rs).pl.toNat) (ringN (oneC f st rs) p Y) (k := q) hqn
                rw [e1, HRH.out])
            have hqP : q < PN := by omega
            have hqPI : (q : Int) < (PN : Int) := by omega
            have hq1 : ¬ (q : Int) < 0 := by omega
            have hq2 : ¬ f.pl ≤ (q : Int) := by omega
            subst e7
            clear hx hxb hBH hrh hT hyl hPN
            obtain ⟨c0, c1, c2, c3, c4⟩ := FX4.out wr h4i
            go_wp2_with fail
            clear c0 c1 c2 c3 c4
            refine K18.out.mono ?_
            clear K18
            rintro e w18 ⟨B, rfl, h18, hbc⟩
            have hxN := hxi.trans h18
            clear g7
            cases BH
            case false =>
              have e0 : Hid (yesM (heardH (farM (oneC f st rs)) (Y : Int) p) (LX.take (j + 1)) = T) := by unfold Hid; rw [HSN.out]; simp
              go_wp2
              go_roundw
              case rel => exact ⟨j + 1, hj1, by go_num, by rw [e0.out], hxN⟩
              case measure => simp [intOf]; omega
            case true =>
              have e0 : Hid (yesM (heardH (farM (oneC f st rs)) (Y : Int) p) (LX.take (j + 1)) = T + 1) := by unfold Hid; rw [HSN.out]; simp
              go_wp2
              go_roundw
              case rel => exact ⟨j + 1, hj1, by go_num, by rw [e0.out], hxN⟩
              case measure => simp [intOf]; omega
          · obtain rfl : j = LX.length := by omega
            rw [List.take_length]
            have hyl := yes_le (heardH (farM (oneC f st rs)) (Y : Int) p) LX
            obtain ⟨NP, hNP⟩ : ∃ NP, mostN (heardH (farM (oneC f st rs)) (Y : Int)) LX p = NP := ⟨_, rfl⟩
            obtain ⟨n1, n2, n3⟩ := HLO.out p hpn
            rw [hNP] at n1 n2 n3
            unfold mostN at hNP
            obtain ⟨T, hT⟩ : ∃ T, yesM (heardH (farM (oneC f st rs)) (Y : Int) p) LX = T := ⟨_, rfl⟩
            rw [hT] at hyl hNP ⊢
            have HNP := hid hNP
            have HN2 := hid n2
            have HN3 := hid n3
            clear hT hNP n2 n3
            go_upto_region 21 with fail
            go_cut [20] (fun s20 wx => s20 = .int .i64 NP ∧ wr = wx)
            case first =>
              go_wp2_with fail
              go_meet
              exact ⟨by rw [HNP.out], (by first | rfl | trivial)⟩
            case rest =>
              obtain ⟨rfl, hw⟩ := hcut
              subst hw
              have hxN := hxr.trans hxi
              have n1' : ¬ NP < MO := by omega
              by_cases hpb : p = b
              · obtain rfl : NP = MO := HN3.out hpb
                have bx1 : ((p : Int) == (b : Int)) = true := by rw [hpb]; simp
                have bx2 : (NP != NP) = false := by simp
                have bx3 : ¬ (p : Int) < (b : Int) := by omega
                clear hpb
                go_wp2
                go_roundw
                case rel => exact ⟨p + 1, hpN, by go_num, hxN⟩
                case measure => simp [intOf]; omega
              · have bx1 : ((p : Int) == (b : Int)) = false := by simp; omega
                by_cases hnm : NP = MO
                · have bx3 : ¬ (p : Int) < (b : Int) := fun e => by have := HN2.out (by omega); omega
                  have bx4 : (NP == MO) = true := by simpa using hnm
                  clear hpb hnm
                  go_wp2
                  go_roundw
                  case rel => exact ⟨p + 1, hpN, by go_num, hxN⟩
                  case measure => simp [intOf]; omega
                · have bx4 : (NP == MO) = false := by simpa using hnm
                  clear hpb hnm
                  go_wp2
                  go_roundw
                  case rel => exact ⟨p + 1, hpN, by go_num, hxN⟩
                  case measure => simp [intOf]; omega
      · have h4r := h6.trans hxr
        have P25' := P25.out wr h4r
        rcases HA.out.dec with hD | ⟨hD, hDO⟩
        · rw [hD] at P25'
          have HP := hid P25'
          clear P25' hD
          obtain ⟨c0, c1, c2, c3, c4⟩ := FX4.out wr h4r
          go_wp2_with fail
          clear c0 c1 c2 c3 c4
          refine HP.out.mono ?_
          rintro e w8 ⟨r, rfl, h8, -⟩
          go_wp2_with fail
          refine (awake_any w8).mono ?_
          rintro e w18 ⟨rfl, h18⟩
          have hfin := HEX.out.trans ((h4r.trans h8).trans h18)
          go_wp2
          go_ret
          exact ⟨rfl, hfin⟩
        · obtain ⟨d, hdd⟩ : ∃ d, decideL (oneC f st rs) 0 (I : Int) (Y : Int) = d := ⟨_, rfl⟩
          rw [hdd] at P25' hDO
          rw [hD] at P25'
          have HP := hid P25'
          have HDO := hid hDO
          clear P25' hD hdd hDO
          obtain ⟨c0, c1, c2, c3, c4⟩ := FX4.out wr h4r
          go_wp2_with fail
          clear c0 c1 c2 c3 c4
          refine HP.out.mono ?_
          clear HP
          rintro e w8 ⟨r, rfl, h8', Ad, kd, rfl, hId⟩
          have h8 := h4r.trans h8'
          have HId := hid hId
          clear hId h8' h4r hxr
          have hd8 : d.length ≤ 8 := by
            have h1 := HDO.out.len
            have e1 : (oneC f st rs).pl = f.pl := rfl
            rw [e1] at h1
            omega
          go_wp2
          go_loopw [22, 157] (fun s22 i157 wr => ∃ (j : Nat) (Ac : Option Addr) (kc : Nat), j ≤ d.length ∧ i157 = .int .i64 (j : Int) ∧ s22 = .slice Ac j kc ∧ wr.ownsRow w8.heap.size 68 2 (.slice Ac j kc) j (layPr.rows (loudM (d.take j) (Y : Int))) ∧ Ext w8 wr) (fun _ i _ => d.length - (intOf i).toNat)
          case atStart => exact ⟨0, none, 0, Nat.zero_le _, rfl, rfl, own_nil _ _ _ _, Ext.refl _⟩
          case round =>
            obtain ⟨j, Ac, kc, hj, rfl, rfl, hoc, hxi⟩ := hrel
            by_cases hjl : j < d.length
            · have hjI : (j : Int) < (d.length : Int) := by omega
              have hj1 : j + 1 ≤ d.length := hjl
              obtain ⟨x, hx⟩ := get_of_lt d j hjl
              obtain ⟨b7, o7, e7, g7⟩ := Ints.at_ (HId.out.ext hxi) hx
              have HTK : Hid (layPr.rows (loudM (d.take j) (Y : Int)) ++ [.int .i64 x, .int .i64 (Y : Int)] = layPr.rows (loudM (d.take (j + 1)) (Y : Int))) := by
                unfold Hid
                rw [take_next hx]
                unfold loudM
                rw [List.map_append, Lay.rows_app]; rfl
              obtain ⟨W5, hW5⟩ : ∃ W5, wr.alloc (.cells #[.int .i64 x, .int .i64 (Y : Int)] 68) = W5 := ⟨_, rfl⟩
              have hx5 : Ext wr W5 := by rw [← hW5]; exact Ext.alloc (Ext.refl _) _
              have HRD : Hid (Rd W5 (some ⟨wr.heap.size, 0, none⟩) [.int .i64 x, .int .i64 (Y : Int)]) := by unfold Hid; rw [← hW5]; exact rd_blk (heap_alloc_new wr _)
              have OD5 := hid (own_below hoc hx5)
              have hx85 := hxi.trans hx5
              have sz5 : w8.heap.size ≤ W5.heap.size := hx85.size
              subst e7
              clear hx hoc hx5
              go_wp2_with (at_builtin; (try rw [hW5]); refine wpList_append_rd2 _ rfl _ _ 22 rfl elem_pair w8.heap.size _ j (layPr.rows (loudM (d.take j) (Y : Int))) rfl OD5.out (some ⟨wr.heap.size, 0, none⟩) 1 1 [.int .i64 x, .int .i64 (Y : Int)] rfl rfl HRD.out (by intro u hu; simp at hu; rcases hu with rfl | rfl <;> rfl) (by omega) sz5 ?_)
              intro A6 c6 W6 own6 hbel6 hgr6 hloc6
              rw [HTK.out] at own6
              have hx6 : Ext w8 W6 := Ext.grown hx85 hgr6 (fun k e => (OD5.out.lt k e).1)
              have HO6 := hid own6
              clear own6 hbel6 hgr6 hloc6 g7 hW5 HRD OD5 HTK sz5 hx85
              go_wp2
              go_roundw
              case rel => exact ⟨j + 1, A6, c6, hj1, by go_num, rfl, HO6.out, hx6⟩
              case measure => simp [intOf]; omega
            · obtain rfl : j = d.length := by omega
              rw [List.take_length] at hoc
              have h8r := h8.trans hxi
              have hdm : ∀ x ∈ d, 0 ≤ x ∧ x < f.pl := HDO.out.mem
              obtain ⟨C, hC⟩ : ∃ C, loudM d (Y : Int) = C := ⟨_, rfl⟩
              have hCl : C.length = d.length := by rw [← hC]; exact loudM_len _ _
              obtain ⟨a1, a2⟩ := HA.out.apart d hdm
              rw [HDO.out.no] at a2
              rw [hC] at a1 a2 hoc
              have P34 := apart_any _ (oneC f st rs) 0 (I : Int) Ac kc C wr (HGV.out wr h8r) HSZ.out (Rd.of_own hoc) (by omega)
              unfold ApartPost at P34
              rw [a1, a2, hCl] at P34
              have HP := hid P34
              have HOC := hid hoc
              have HER : Hid (∀ m, m < d.length → ∃ EC, C.eraseIdx m = EC ∧ apartE (oneC f st rs) 0 (I : Int) EC = 0 ∧ 0 < (apartL (oneC f st rs) 0 (I : Int) EC).length) := fun m hm => by
                refine ⟨_, rfl, ?_⟩
                rw [← hC, loud_erase]
                obtain ⟨q1, q2⟩ := HA.out.apart (d.eraseIdx m) (fun x hx => hdm x (List.mem_of_mem_eraseIdx hx))
                exact ⟨q1, by rw [q2]; exact HDO.out.some_ m hm⟩
              have HCl := hid hCl
              clear P34 a1 a2 hoc hC hCl
              obtain ⟨c0, c1, c2, c3, c4⟩ := FX4.out wr h8r
              go_wp2_with fail
              clear c0 c1 c2 c3 c4
              refine HP.out.mono ?_
              clear HP
              rintro e w9 ⟨r, rfl, h9', An, kn, rfl, -⟩
              have h9 := h8r.trans h9'
              have HO9 := hid (own_below HOC.out h9')
              simp only [List.length_nil]
              clear h8r hxi HOC h9'
              go_wp2
              go_loopw [188] (fun i188 wr => ∃ m : Nat, m ≤ d.length ∧ i188 = .int .i64 (m : Int) ∧ Ext w9 wr) (fun i _ => d.length - (intOf i).toNat)
              case atStart => exact ⟨0, Nat.zero_le _, rfl, Ext.refl _⟩
              case round =>
                obtain ⟨m, hm, rfl, hxv⟩ := hrel
                have hv := h9.trans hxv
                by_cases hml : m < d.length
                · have hmt : (m : Int) < (d.length : Int) := by omega
                  have hm1 : m + 1 ≤ d.length := hml
                  obtain ⟨EC, hEC, q1, q2⟩ := HER.out m hml
                  obtain ⟨NR, hNR⟩ : ∃ NR, (apartL (oneC f st rs) 0 (I : Int) EC).length = NR := ⟨_, rfl⟩
                  rw [hNR] at q2
                  have bN : ((NR : Int) == 0) = false := by simp; omega
                  have hECl : EC.length ≤ 1000 := by rw [← hEC, List.length_eraseIdx, HCl.out]; split <;> omega
                  have KC : Hid (∀ w', Ext wr w' → Calls Tryz.prog 78 #[.slice Ac d.length kc] w' fun e w2 => ∃ gg c, e = .returned (.slice (some ⟨gg, 0, none⟩) C.length c) ∧ w2.ownsRow wr.heap.size 68 2 (.slice (some ⟨gg, 0, none⟩) C.length c) C.length (layPr.rows C) ∧ Ext wr w2) := fun w' h => by
                    have K := clone_pair Ac kc C w' (Rd.of_own (own_below HO9.out (hxv.trans h))) (by have := HCl.out; omega)
                    rw [HCl.out] at K ⊢
                    refine K.mono ?_
                    rintro e w2 ⟨A', c', rfl, ho, -, hx⟩
                    rcases ho.2 with ⟨e, e0⟩ | ⟨gg, cap, cur, e, _⟩
                    · omega
                    · simp only [Value.slice.injEq, true_and] at e
                      obtain ⟨rfl, rfl⟩ := e
                      exact ⟨gg, c', rfl, own_lower ho h.size, h.trans hx⟩
                  have KD : Hid (∀ gg c w', w'.ownsRow wr.heap.size 68 2 (.slice (some ⟨gg, 0, none⟩) C.length c) C.length (layPr.rows C) → Ext wr w' → Calls Tryz.prog 77 #[.slice (some ⟨gg, 0, none⟩) C.length c, .int .i64 (m : Int), .int .i64 ((m : Int) + 1)] w' fun e w2 => e = .returned (.slice (some ⟨gg, 0, none⟩) EC.length c) ∧ w2.ownsRow wr.heap.size 68 2 (.slice (some ⟨gg, 0, none⟩) EC.length c) EC.length (layPr.rows EC) ∧ Ext wr w2) := fun gg c w' ho h => by
                    rw [← hEC]
                    exact deleteP_any wr gg c m C w' ho h (by have := HCl.out; omega) (by have := HCl.out; omega)
                  have KA : Hid (∀ gg c w', w'.ownsRow wr.heap.size 68 2 (.slice (some ⟨gg, 0, none⟩) EC.length c) EC.length (layPr.rows EC) → Ext wr w' → Calls Tryz.prog 43 #[.agg #[.int .i64 f.pl, .int .i64 f.mi, .slice s.a1 f.tr.length s.c1, .slice s.a2 f.bl.length s.c2, .slice (some ⟨g, 0, none⟩) 1 s.c3], .int .i64 0, .int .i64 (I : Int), .slice (some ⟨gg, 0, none⟩) EC.length c] w' fun e w2 => ∃ A k, e = .returned (.tuple #[.slice A NR k, .int .i64 0]) ∧ Ext wr w2) := fun gg c w' ho h => by
                    have K := apart_any _ (oneC f st rs) 0 (I : Int) (some ⟨gg, 0, none⟩) c EC w' (HGV.out w' (hv.trans h)) HSZ.out (Rd.of_own ho) hECl
                    unfold ApartPost at K
                    rw [q1] at K
                    refine K.mono ?_
                    rintro e w2 ⟨r, rfl, hx, A, k, rfl, -⟩
                    exact ⟨A, k, by rw [hNR], h.trans hx⟩
                  have FV : Hid (∀ w', Ext wr w' → w'.cell? ⟨F, 0, none⟩ = some (.int .i64 f.pl) ∧ w'.cell? ⟨F, 1, none⟩ = some (.int .i64 f.mi) ∧ w'.cell? ⟨F, 2, none⟩ = some (.slice s.a1 f.tr.length s.c1) ∧ w'.cell? ⟨F, 3, none⟩ = some (.slice s.a2 f.bl.length s.c2) ∧ w'.cell? ⟨F, 4, none⟩ = some (.slice (some ⟨g, 0, none⟩) 1 s.c3)) := fun w' h => FX4.out w' (hv.trans h)
                  have hq0 : Ext wr wr.drew := Ext.drew (Ext.refl _)
                  have hq1 := Ext.refl wr
                  have HMW : Hid (IntKind.i64.wrap ((m : Int) + 1) = (m : Int) + 1) := IntWalk.i64_in _ ⟨by omega, by omega⟩
                  clear hEC q1 q2 hNR
                  go_wp2
                  go_region_held3 (fun w' => w'.cell? ⟨F, 0, none⟩ = some (.int .i64 f.pl) ∧ w'.cell? ⟨F, 1, none⟩ = some (.int .i64 f.mi) ∧ w'.cell? ⟨F, 2, none⟩ = some (.slice s.a1 f.tr.length s.c1) ∧ w'.cell? ⟨F, 3, none⟩ = some (.slice s.a2 f.bl.length s.c2) ∧ w'.cell? ⟨F, 4, none⟩ = some (.slice (some ⟨g, 0, none⟩) 1 s.c3))
                    (first | exact FV.out _ hq0 | exact FV.out _ hq1 | exact FV.out _ hxC | exact FV.out _ hxD | exact FV.out _ hxA)
                    (first
                      | (go_at_call 43; refine (KA.out gC cC _ hoD hxD).mono ?_; rintro e wA ⟨AA, kA, rfl, hxA⟩)
                      | (go_at_call 77; rw [HMW.out]; refine (KD.out gC cC _ hoC hxC).mono ?_; rintro e wD ⟨rfl, hoD, hxD⟩)
                      | (go_at_call 78; refine (KC.out _ hq0).mono ?_; rintro e wC ⟨gC, cC, rfl, hoC, hxC⟩))
                  have hxN := hxv.trans hxA
                  go_wp2
                  go_roundw
                  case rel => exact ⟨m + 1, hm1, by go_num, hxN⟩
                  case measure => simp [intOf]; omega
                · have hmt : ¬ (m : Int) < (d.length : Int) := by omega
                  go_wp2_with fail
                  refine (awake_any wr).mono ?_
                  rintro e w16 ⟨rfl, h16⟩
                  have hfin := HEX.out.trans (hv.trans h16)
                  go_wp2
                  go_ret
                  exact ⟨rfl, hfin⟩
end Go.Proofs.YtpbpcplboikpcaaGreat
