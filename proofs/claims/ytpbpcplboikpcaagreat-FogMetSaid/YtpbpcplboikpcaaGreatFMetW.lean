/- The walk of FogMet. Printed by my gen_fmetl.py. -/
import Derived.Test.YtpbpcplboikpcaaGreatFGSt
import Derived.Test.YtpbpcplboikpcaaGreatFMade
import Derived.Test.YtpbpcplboikpcaaGreatFTold
import Derived.Test.YtpbpcplboikpcaaGreatFTripP
import Derived.Test.YtpbpcplboikpcaaGreatG5
import Derived.Deep.DeepCutAuto
import Derived.Deep.CutBlock
import Derived.Test.YtpbpcplboikpcaaGreatFMet
import Derived.Test.YtpbpcplboikpcaaGreatG4
import Derived.Deep.RegionHeld3
namespace Go.Proofs.YtpbpcplboikpcaaGreat
open Go Go.RowKit Go.Shelf
set_option linter.unusedVariables false
set_option linter.unusedSimpArgs false

theorem MadeF.addCart {P M K : Nat} {f : Fg} (h : MadeF P M K f) {x : Int} (hx : 0 ≤ x ∧ x < f.pl) (hK : f.ct.length + 1 ≤ K) (h3 : K ≤ 3) : MadeF P M K { f with ct := f.ct ++ [⟨[x], []⟩] } := by
  have key : ∀ {Q : Ct → Prop}, (∀ y ∈ f.ct, Q y) → Q ⟨[x], []⟩ → ∀ y ∈ f.ct ++ [⟨[x], []⟩], Q y := fun h1 h2 y hy => by
    rcases List.mem_append.1 hy with hy | hy
    · exact h1 y hy
    · simp only [List.mem_singleton] at hy; subst hy; exact h2
  have ho := h.ok
  exact {
    ok := {
      pl := ho.pl, mi := ho.mi, tn := ho.tn, bn := ho.bn
      cn := by simp only [List.length_append, List.length_singleton]; omega
      tr := ho.tr, bl := ho.bl
      st := key (Q := fun c => ∀ p ∈ c.st, 0 ≤ p ∧ p < f.pl) ho.st (fun p hp => by simp only [List.mem_singleton] at hp; subst hp; exact hx)
      rp := key (Q := fun c => ∀ r ∈ c.rp, 0 ≤ r.bl ∧ r.bl < f.bl.length) ho.rp (fun r hr => by cases hr)
      rn := key (Q := fun c => c.rp.length ≤ 8) ho.rn (Nat.zero_le _)
      ra := key (Q := fun c => againL sameR [] c.rp = false) ho.ra rfl
      ne := key (Q := fun c => 0 < c.st.length) ho.ne (by simp)
      asc := key (Q := fun c => ascL c.st = true) ho.asc rfl }
    ag := h.ag, pl := h.pl, mi := h.mi
    ct := by simp only [List.length_append, List.length_singleton]; exact hK
    rp := key (Q := fun c => c.rp = []) h.rp rfl }
theorem ok_sized {f : Fg} (h : FogOK f) : f.sized where
  tr := by have := h.tn; omega
  bl := by have := h.bn; omega
  ct := by have := h.cn; omega
  each := fun x hx => by have := st_len h hx; have := h.rn x hx; omega
theorem ct_at {f : Fg} {k : Nat} {c : Ct} (h : f.ct[k]? = some c) : ctAt f (k : Int) = c ∧ ctOK f (k : Int) = true := by
  have hk := (List.getElem?_eq_some_iff.1 h).1
  refine ⟨by unfold ctAt; rw [Int.toNat_natCast, List.getD_eq_getElem?_getD, h]; rfl, ?_⟩
  unfold ctOK; rw [inB_iff]; omega
theorem cart_ok {f : Fg} (hc : checkF f = 0) {k : Nat} {c : Ct} (h : f.ct[k]? = some c) : cartE f (k : Int) = 0 := by
  unfold cartE
  rw [if_pos hc]
  have := (ct_at h).2
  rw [this]; rfl
theorem met_ok {f : Fg} (hc : checkF f = 0) {k b : Nat} {ck cb : Ct} (hk : f.ct[k]? = some ck) (hb : f.ct[b]? = some cb) (h1 : lostF (farM f) f ck = false) (h2 : lostF (farM f) f cb = false) : metE f (k : Int) (b : Int) = 0 ∧ metV f (k : Int) (b : Int) = metM (farM f) f ck cb := by
  have e : metE f (k : Int) (b : Int) = 0 := by
    unfold metE
    rw [if_neg (fun h => h (cart_ok hc hk)), (ct_at hk).1, (ct_at hb).1, (ct_at hb).2, h1, h2]; rfl
  refine ⟨e, ?_⟩
  unfold metV
  rw [if_pos e, (ct_at hk).1, (ct_at hb).1]
theorem at_ok {f : Fg} (hok : FogOK f) (hc : checkF f = 0) {k : Nat} {ck : Ct} (hk : f.ct[k]? = some ck) (h1 : lostF (farM f) f ck = false) {m : Nat} (hm : m ≤ f.mi.toNat) : atE f (k : Int) (m : Int) = 0 ∧ atL f (k : Int) (m : Int) = natI (canN (farM f) f ck m) := by
  have hmi := hok.mi
  have hmo : miOK f (m : Int) = true := by unfold miOK; rw [inB_iff]; omega
  have e : atE f (k : Int) (m : Int) = 0 := by
    unfold atE
    rw [if_neg (fun h => h (cart_ok hc hk)), hmo, (ct_at hk).1, h1]; rfl
  refine ⟨e, ?_⟩
  unfold atL
  rw [if_pos e, (ct_at hk).1, Int.toNat_natCast]
theorem lmet1_fn (w : World) (Bx : Nat) (A : Option Addr) (k : Nat) (l : List Int) (hl : l.length ≤ 9223372036854775807) (hc : w.cell? ⟨Bx, 0, none⟩ = some (.slice A l.length k)) (hI : Ints w A l) :
    FnP Tryz.prog (.func (.func 65) #[] #[.pointer (some ⟨Bx, 0, none⟩)]) w IntR anyx (fun x => memI x l) := by
  refine ⟨_, _, _, rfl, enters_of Tryz.func65 (by kernel_rfl) rfl, fun x v W hs hW hR => ?_⟩
  obtain rfl : v = .int .i64 x := hR
  have h2 := hW.cell hc
  have hK := hid (containsI_any x A k l W (hI.kc hW) hl)
  clear hI hW hs hc
  show Calls _ _ #[_, _] _ _
  go_enter Tryz.func65, Tryz.ntmps65
  go_wp2_with fail
  refine hK.out.mono ?_
  rintro e w1 ⟨rfl, rfl⟩
  go_wp2
  go_ret
  exact ⟨rfl, Ext.refl _⟩
theorem deal_up3 (D : Nat) (w : World) : Up (Deal D) (fun w' => Bel D w w' ∧ HeapR w' D) := fun _ _ h k => ⟨h.1.trans k.1, k.2 h.2⟩
set_option maxRecDepth 100000 in
set_option maxHeartbeats 16000000 in
theorem metsw_any (A : Option Addr) (l : List Int) (cap : Nat) (w : World) (hA : Bytes w A l) (hl : ∀ x ∈ l, 0 ≤ x ∧ x ≤ 255) (hlt : ∀ a, A = some a → l = [] ∨ a.block < w.heap.size) (hn : l.length ≤ 9223372036854775807) :
    Calls Tryz.prog 8 #[.slice A l.length cap] w fun e w' => e = .returned (.bool true) ∧ Ext w w' := by
  have K1 := hid (pile_any A l cap w hA hl hlt hn)
  clear hA hl hlt hn
  go_enter Tryz.func8, Tryz.ntmps8
  go_wp2_with fail
  refine K1.out.mono ?_
  clear K1
  rintro e w1 ⟨D, rfl, hD, hx1, hh1⟩
  have hDw := hh1.lt
  go_wp2_with fail
  refine (made_any D 7 6 2 w1 hh1 (by decide) (by decide) (by decide) (by decide) (by decide)).mono ?_
  rintro e w2 ⟨v, f, rfl, hMF, hLO, ⟨B, hB, hg⟩, hb2, hh2⟩
  have hx2 : Ext w w2 := hx1.then_bel hD hb2
  obtain ⟨s, xs, rfl, G0⟩ := GSt.start hg hh2 hx2 (by omega) hD
  obtain ⟨w3, hw3⟩ : ∃ w3, w2.alloc (.cells (mcells f s) 28) = w3 := ⟨_, rfl⟩
  obtain ⟨F, hF⟩ : ∃ F, w2.heap.size = F := ⟨_, rfl⟩
  rw [hw3, hF] at G0
  have HMF := hid hMF
  have HLO := hid hLO
  have HW3 := hid hw3
  have HF := hid hF
  unfold mcells at HW3
  clear hg hMF hLO hw3 hF hb2 hh2 hx1 hx2 hh1
  have G0c := G0.cells
  obtain ⟨c0, c1, c2, c3, c4⟩ := G0c
  unfold Ads.val fval
  go_upto_region 3 with fail
  rw [HW3.out, HF.out]
  clear HW3 HF
  go_upto_if 28 with fail
  go_cut [] (fun wx => ∃ f s xs, GSt D F (D + 1) w wx f s xs ∧ MadeF 7 6 2 f ∧ f.ct.length = 2)
  case first =>
    by_cases hc2 : f.ct.length < 2
    case neg =>
      have hc2' : ¬ ((f.ct.length : Int) < 2) := by omega
      go_wp2_with fail
      go_meet
      exact ⟨f, s, xs, G0, HMF.out, by have := HMF.out.ct; omega⟩
    have hc2' : (f.ct.length : Int) < 2 := by omega
    have hpl := HMF.out.ok.pl
    have HWL : Hid (IntKind.i64.wrap (f.pl - 1) = f.pl - 1) := IntWalk.i64_in _ ⟨by omega, by omega⟩
    have hh3 := G0.hp
    have FX : Hid (∀ w', (Bel D w3 w' ∧ HeapR w' D) → w'.cell? ⟨F, 0, none⟩ = some (.int .i64 f.pl) ∧ w'.cell? ⟨F, 1, none⟩ = some (.int .i64 f.mi) ∧ w'.cell? ⟨F, 2, none⟩ = some (.slice s.a1 f.tr.length s.c1) ∧ w'.cell? ⟨F, 3, none⟩ = some (.slice s.a2 f.bl.length s.c2) ∧ w'.cell? ⟨F, 4, none⟩ = some (.slice s.a3 f.ct.length s.c3)) := fun w' h => (G0.bel h.1 h.2).cells
    clear c0 c1 c2 c3 c4
    go_wp2
    refine wp_region_shut_tail (Deal D) (fun w' => Bel D w3 w' ∧ HeapR w' D) (fun
      | 7 => some (fun v _ => ∃ y : Int, v = .int .i64 y ∧ 0 ≤ y ∧ y < f.pl)
      | 8 => some (fun v w' => ∃ (g : Nat) (x : Int), v = .slice (some ⟨g, 0, none⟩) 1 1 ∧ w3.heap.size ≤ g ∧ w'.heap[g]? = some (.cells #[.int .i64 x] 3 (0, 0)) ∧ 0 ≤ x ∧ x < f.pl)
      | 9 => some (fun v w' => ∃ (g : Nat) (x : Int), v = .agg #[.slice (some ⟨g, 0, none⟩) 1 1, .slice none 0 0] ∧ w3.heap.size ≤ g ∧ w'.heap[g]? = some (.cells #[.int .i64 x] 3 (0, 0)) ∧ 0 ≤ x ∧ x < f.pl)
      | 10 => some (fun v w' => ∃ (g gs : Nat) (x : Int), v = .slice (some ⟨g, 0, none⟩) 1 1 ∧ D < g ∧ Rd w' (some ⟨g, 0, none⟩) [.slice (some ⟨gs, 0, none⟩) 1 1, .slice none 0 0] ∧ w3.heap.size ≤ gs ∧ w'.heap[gs]? = some (.cells #[.int .i64 x] 3 (0, 0)) ∧ 0 ≤ x ∧ x < f.pl)
      | _ => none) 11 (by kernel_rfl) (by kernel_rfl) (deal_up3 D w3) ?hTa ⟨(Bel.refl D w3).drew, hh3.ext (Ext.drew (Ext.refl _))⟩ ?_
    case hTa =>
      intro i R hR
      match i, hR with
      | 7, hR => cases hR; exact fun _ _ _ h _ => h
      | 8, hR => cases hR; exact fun _ _ _ ⟨g, x, h1, h2, h3, h4⟩ k => ⟨g, x, h1, h2, k.1.heap h3 (fun e => by have := hh3.lt; omega), h4⟩
      | 9, hR => cases hR; exact fun _ _ _ ⟨g, x, h1, h2, h3, h4⟩ k => ⟨g, x, h1, h2, k.1.heap h3 (fun e => by have := hh3.lt; omega), h4⟩
      | 10, hR => cases hR; exact fun _ _ _ ⟨g, gs, x, h1, h2, h3, h4, h5, h6⟩ k => ⟨g, gs, x, h1, h2, k.1.rd h3 (fun a ha => by cases ha; show g ≠ D; omega), h4, k.1.heap h5 (fun e => by have := hh3.lt; omega), h6⟩
    refine wM_val ?ua0 rfl rfl (Deal.refl D) (fun w' hD => ?ha0) (fun pha0 => ?na0)
    case ha0 =>
      obtain ⟨c0, c1, c2, c3, c4⟩ := FX.out w' hD.1
      go_simp; rfl
    simp only [Act.put, List.setIfInBounds_toArray, List.set_cons_succ, List.set_cons_zero, Nat.reduceAdd]
    refine wM_val ?ua1 rfl rfl (Deal.refl D) (fun w' hD => ?ha1) (fun pha1 => ?na1)
    case ha1 =>
      obtain ⟨c0, c1, c2, c3, c4⟩ := FX.out w' hD.1
      go_simp; rfl
    simp only [Act.put, List.setIfInBounds_toArray, List.set_cons_succ, List.set_cons_zero, Nat.reduceAdd]
    refine wM_val ?ua2 rfl rfl (Deal.refl D) (fun w' hD => ?ha2) (fun pha2 => ?na2)
    case ha2 =>
      obtain ⟨c0, c1, c2, c3, c4⟩ := FX.out w' hD.1
      go_simp; rfl
    simp only [Act.put, List.setIfInBounds_toArray, List.set_cons_succ, List.set_cons_zero, Nat.reduceAdd]
    refine wM_val ?ua3 rfl rfl (Deal.refl D) (fun w' hD => ?ha3) (fun pha3 => ?na3)
    case ha3 =>
      obtain ⟨c0, c1, c2, c3, c4⟩ := FX.out w' hD.1
      go_simp; rfl
    simp only [Act.put, List.setIfInBounds_toArray, List.set_cons_succ, List.set_cons_zero, Nat.reduceAdd]
    refine wM_val ?ua4 rfl rfl (Deal.refl D) (fun w' hD => ?ha4) (fun pha4 => ?na4)
    case ha4 =>
      obtain ⟨c0, c1, c2, c3, c4⟩ := FX.out w' hD.1
      go_simp; rfl
    simp only [Act.put, List.setIfInBounds_toArray, List.set_cons_succ, List.set_cons_zero, Nat.reduceAdd]
    refine wM_val ?ua5 rfl rfl (Deal.refl D) (fun w' hD => ?ha5) (fun pha5 => ?na5)
    case ha5 =>
      obtain ⟨c0, c1, c2, c3, c4⟩ := FX.out w' hD.1
      go_simp; rfl
    simp only [Act.put, List.setIfInBounds_toArray, List.set_cons_succ, List.set_cons_zero, Nat.reduceAdd]
    refine wM_val ?ua6 rfl rfl (Deal.refl D) (fun w' hD => ?ha6) (fun pha6 => ?na6)
    case ha6 =>
      obtain ⟨c0, c1, c2, c3, c4⟩ := FX.out w' hD.1
      go_simp; rfl
    simp only [Act.put, List.setIfInBounds_toArray, List.set_cons_succ, List.set_cons_zero, Nat.reduceAdd]
    try rw [HWL.out]
    refine wM_op _ rfl rfl (opens_call ?fa7 ?ga7 (fun w' hD => ?ha7) (fun w' hD => ?ca7)) (fun v7 hv7 => ?na7)
    case ha7 => go_simp; constructor <;> rfl
    case ca7 =>
      refine (upto_any D (f.pl - 1) w' hD.1.2 (by omega) (by omega)).mono ?_
      rintro e w2 ⟨r, rfl, r1, r2, hb, hh⟩
      exact ⟨_, rfl, Deal.mk' hb hh, r, rfl, r1, by omega⟩
    obtain ⟨_, -, -, x, rfl, x1, x2⟩ := hv7
    simp only [Act.put, List.setIfInBounds_toArray, List.set_cons_succ, List.set_cons_zero, Nat.reduceAdd]
    refine wM_op _ rfl rfl (opens_val (fun w' hD => ?ha8)) (fun v8 hv8 => ?na8)
    case ha8 =>
      refine ⟨.slice (some ⟨w'.heap.size, 0, none⟩) 1 1, w'.alloc (.cells #[.int .i64 x] 3), ?_, Deal.ext (Ext.alloc (Ext.refl _) _), w'.heap.size, x, rfl, hD.1.1.size, heap_alloc_new w' _, x1, x2⟩
      go_simp
    obtain ⟨_, -, -, gs, x', rfl, -⟩ := hv8
    simp only [Act.put, List.setIfInBounds_toArray, List.set_cons_succ, List.set_cons_zero, Nat.reduceAdd]
    refine wM_op _ rfl rfl (opens_val (fun w' hD => ?ha9)) (fun v9 hv9 => ?na9)
    case ha9 =>
      obtain ⟨-, g', x', e, h1, h2, h3⟩ := hD.get 8 (by kernel_rfl)
      cases e
      refine ⟨.agg #[.slice (some ⟨gs, 0, none⟩) 1 1, .slice none 0 0], w', ?_, Deal.refl D w', gs, x', rfl, h1, h2, h3⟩
      go_simp
    obtain ⟨_, -, -, gs', x'', e9, -⟩ := hv9
    subst e9
    simp only [Act.put, List.setIfInBounds_toArray, List.set_cons_succ, List.set_cons_zero, Nat.reduceAdd]
    refine wM_op _ rfl rfl (opens_val (fun w' hD => ?ha10)) (fun v10 hv10 => ?na10)
    case ha10 =>
      obtain ⟨-, g', x', e, h1, h2, h3⟩ := hD.get 9 (by kernel_rfl)
      cases e
      refine ⟨.slice (some ⟨w'.heap.size, 0, none⟩) 1 1, w'.alloc (.cells #[.slice (some ⟨gs', 0, none⟩) 1 1, .slice none 0 0] 62), ?_, Deal.ext (Ext.alloc (Ext.refl _) _), w'.heap.size, gs', x', rfl, hD.1.2.lt, rd_blk (heap_alloc_new w' _), h1, (Below.block (Ext.alloc (Ext.refl w') _) gs' (Array.getElem?_eq_some_iff.1 h2).1).trans h2, h3⟩
      go_simp
    obtain ⟨_, -, -, gc, gs'', x3, rfl, -⟩ := hv10
    simp only [Act.put, List.setIfInBounds_toArray, List.set_cons_succ, List.set_cons_zero, Nat.reduceAdd]
    refine wM_nil ?_
    intro w9 hw9 hF9
    obtain ⟨-, g3, gs3, x3', e3, hg3, hc3, hgs, hgx, hx3⟩ := hF9 10
    cases e3
    clear hF9 FX
    have G9 := G0.bel hw9.1 hw9.2
    have O9 : w9.ownsRow (D + 1) 3 1 (.slice (some ⟨gs3, 0, none⟩) 1 1) 1 ([x3'].map (.int .i64)) := Nrow.own (l := [x3']) hgx (by have := hh3.lt; omega) rfl (by decide)
    have hD9 := G9.hp.lt
    try simp only [List.drop_succ_cons, List.drop_zero]
    refine wpList_append_rd2 _ rfl _ _ 26 rfl elem_cart (D + 1) (.slice s.a3 f.ct.length s.c3) f.ct.length xs rfl G9.ct _ 1 1 [.slice (some ⟨gs3, 0, none⟩) 1 1, .slice none 0 0] rfl rfl hc3 (by intro u hu; simp at hu; rcases hu with rfl | rfl <;> rfl) (by omega) (by omega) ?_
    intro A5 c5 w5 hown5 hbel5 hgr5 hat5
    have hS5 : BelS (fun k => (Value.slice s.a3 f.ct.length s.c3).ownBlock = some k) w9 w5 := (BelS.refl _ w9).grown hgr5 (fun k e => e)
    have GN := G9.addCt (A := some ⟨gs3, 0, none⟩) (k := 1) hS5 [x3'] O9 hown5
    have hF5 : w5.heap[F]? = some (.cells (mcells f s) 28 (0, 0)) := G9.keepF hS5
    have p5 := block_cell (i := 4) hF5
    have f5 := blk_free (i := 4) hF5
    simp only [mcells, List.getElem?_toArray, List.getElem?_cons_zero, List.getElem?_cons_succ] at p5
    have HGN := hid GN
    have HM2 := hid (HMF.out.addCart hx3 (by omega) (by decide))
    have h1c := HMF.out.ok.cn
    clear hown5 hbel5 hgr5 hat5 hS5 GN hF5 G9 O9 hw9
    go_wp2_with fail
    go_meet
    exact ⟨_, _, _, HGN.out, HM2.out, by simp; omega⟩
  case rest =>
    clear G0 HMF HLO c0 c1 c2 c3 c4
    obtain ⟨f, s, xs, G, hM, hct⟩ := hcut
    obtain ⟨w4, hw4⟩ : ∃ w4 : World, w4 = wc := ⟨_, rfl⟩
    subst hw4
    obtain ⟨ca, hca⟩ := get_of_lt f.ct 0 (by omega)
    obtain ⟨cb, hcb⟩ := get_of_lt f.ct 1 (by omega)
    have HM := hid hM
    have HCA := hid hca
    have HCB := hid hcb
    have HCT := hid hct
    have HSZ := hid (ok_sized hM.ok)
    have hla := lost_free hM.ok (mem_of_get hca) (hM.rp _ (mem_of_get hca))
    have hlb := lost_free hM.ok (mem_of_get hcb) (hM.rp _ (mem_of_get hcb))
    obtain ⟨e1, e2⟩ := met_ok hM.check hca hcb hla hlb
    have HLF := hid (trip_met_free hM.ok (hM.rp _ (mem_of_get hca)) (hM.rp _ (mem_of_get hcb)))
    obtain ⟨LM, hLM⟩ : ∃ LM, metM (farM f) f ca cb = LM := ⟨_, rfl⟩
    rw [hLM] at e2 HLF
    have hlm : LM.length ≤ 9 := by
      rw [← hLM]; unfold metM natI
      rw [List.length_map]
      have := hM.ok.mi
      exact Nat.le_trans (List.length_filter_le _ _) (by simp; omega)
    have hmi := hM.ok.mi
    have hmi6 := hM.mi
    have K := metx_any (s.val f) f 0 1 w4 G.fg HSZ.out
    unfold MetPost at K
    have e1' : metE f 0 1 = 0 := e1
    have e2' : metV f 0 1 = LM := e2
    rw [e1', e2'] at K
    unfold Ads.val fval at K
    have HK := hid K
    clear K e1 e2 e1' e2' hla hlb hLM hM hca hcb hct
    obtain ⟨c0, c1, c2, c3, c4⟩ := G.cells
    go_wp2_with fail
    clear c0 c1 c2 c3 c4
    refine HK.out.mono ?_
    clear HK
    rintro e w5 ⟨r, rfl, h5, AL, kL, rfl, hIL, hkL⟩
    have G5 := G.out h5
    have HIL := hid hIL
    clear G h5 hIL
    obtain ⟨c0, c1, c2, c3, c4⟩ := G5.cells
    go_wp2
    clear c0 c1 c2 c3 c4
    go_loopw [51] (fun i51 wr => ∃ j : Nat, j ≤ LM.length ∧ i51 = .int .i64 (j : Int) ∧ w5 = wr) (fun i _ => LM.length - (intOf i).toNat)
    case atStart => exact ⟨0, Nat.zero_le _, rfl, (by first | rfl | trivial)⟩
    case round =>
      obtain ⟨j, hj, rfl, hxw⟩ := hrel
      subst hxw
      obtain ⟨c0, c1, c2, c3, c4⟩ := G5.cells
      by_cases hlt : j < LM.length
      · have hlt' : (j : Int) < (LM.length : Int) := by omega
        obtain ⟨x, hx⟩ := get_of_lt LM j hlt
        obtain ⟨b7, o7, e7, g7⟩ := Ints.at_ HIL.out hx
        have hxe := HLF.out j x hx
        have hxe2 : x = f.mi + 1 - (LM.length : Int) + (j : Int) := by omega
        have bx : (x != f.mi + 1 - (LM.length : Int) + (j : Int)) = false := by rw [hxe2]; simp
        subst e7
        clear hx hxe hxe2
        go_wp2
        go_roundw
        case rel => exact ⟨j + 1, by omega, by go_num, (by first | rfl | trivial)⟩
        case measure => simp [intOf]; omega
      · have hlt' : ¬ (j : Int) < (LM.length : Int) := by omega
        clear c0 c1 c2 c3 c4
        have hh5 := G5.hp
        have hDw5 := hh5.lt
        have FX : Hid (∀ w', (Bel D w5 w' ∧ HeapR w' D) → w'.cell? ⟨F, 0, none⟩ = some (.int .i64 f.pl) ∧ w'.cell? ⟨F, 1, none⟩ = some (.int .i64 f.mi) ∧ w'.cell? ⟨F, 2, none⟩ = some (.slice s.a1 f.tr.length s.c1) ∧ w'.cell? ⟨F, 3, none⟩ = some (.slice s.a2 f.bl.length s.c2) ∧ w'.cell? ⟨F, 4, none⟩ = some (.slice s.a3 f.ct.length s.c3)) := fun w' h => (G5.bel h.1 h.2).cells
        have HG : Hid (∀ w', (Bel D w5 w' ∧ HeapR w' D) → OwnG w' (.agg #[.int .i64 f.pl, .int .i64 f.mi, .slice s.a1 f.tr.length s.c1, .slice s.a2 f.bl.length s.c2, .slice s.a3 f.ct.length s.c3]) f) := fun w' h => (G5.bel h.1 h.2).g
        go_wp2
        refine wp_region_shut (Deal D) (fun w' => Bel D w5 w' ∧ HeapR w' D) (fun
          | 2 => some (fun v w' => ∃ l A q, v = .slice A l.length q ∧ RealW f ca l ∧ w'.ownsRow (D + 1) 3 1 (.slice A l.length q) l.length (l.map (.int .i64)))
          | 5 => some (fun v w' => ∃ l A q, v = .slice A l.length q ∧ RealW f cb l ∧ w'.ownsRow (D + 1) 3 1 (.slice A l.length q) l.length (l.map (.int .i64)))
          | _ => none) (by kernel_rfl) (by kernel_rfl) (deal_up3 D w5) ?hTb ⟨(Bel.refl D w5).drew, hh5.ext (Ext.drew (Ext.refl _))⟩ ?_
        case hTb =>
          intro i R hR
          match i, hR with
          | 2, hR => cases hR; exact fun _ _ _ ⟨l, A, q, h1, h2, h3⟩ k => ⟨l, A, q, h1, h2, k.1.own h3 (fun g hg e => by have := (h3.lt g hg).1; omega)⟩
          | 5, hR => cases hR; exact fun _ _ _ ⟨l, A, q, h1, h2, h3⟩ k => ⟨l, A, q, h1, h2, k.1.own h3 (fun g hg e => by have := (h3.lt g hg).1; omega)⟩
        refine wM_val ?ub0 rfl rfl (Deal.refl D) (fun w' hD => ?hb0) (fun phb0 => ?nb0)
        case hb0 =>
          obtain ⟨c0, c1, c2, c3, c4⟩ := FX.out w' hD.1
          go_simp; rfl
        simp only [Act.put, List.setIfInBounds_toArray, List.set_cons_succ, List.set_cons_zero, Nat.reduceAdd]
        refine wM_val ?ub1 rfl rfl (Deal.refl D) (fun w' hD => ?hb1) (fun phb1 => ?nb1)
        case hb1 =>
          obtain ⟨c0, c1, c2, c3, c4⟩ := FX.out w' hD.1
          go_simp; rfl
        simp only [Act.put, List.setIfInBounds_toArray, List.set_cons_succ, List.set_cons_zero, Nat.reduceAdd]
        refine wM_op _ rfl rfl (opens_call ?fb2 ?gb2 (fun w' hD => ?hb2) (fun w' hD => ?cb2)) (fun v2 hv2 => ?nb2)
        case hb2 => go_simp; constructor <;> rfl
        case cb2 =>
          refine (walked_any D _ f 0 ca w' hD.1.2 (HG.out w' hD.1) HM.out.ok HCA.out).mono ?_
          rintro e w2 ⟨l, A, q, B, rfl, hb, hh, hr, hB, ho⟩
          exact ⟨_, rfl, Deal.mk' hb hh, l, A, q, rfl, hr, own_lower ho (by have := hD.1.2.lt; omega)⟩
        obtain ⟨_, -, -, la, Aa, qa, rfl, -⟩ := hv2
        simp only [Act.put, List.setIfInBounds_toArray, List.set_cons_succ, List.set_cons_zero, Nat.reduceAdd]
        refine wM_val ?ub3 rfl rfl (Deal.refl D) (fun w' hD => ?hb3) (fun phb3 => ?nb3)
        case hb3 =>
          obtain ⟨c0, c1, c2, c3, c4⟩ := FX.out w' hD.1
          go_simp; rfl
        simp only [Act.put, List.setIfInBounds_toArray, List.set_cons_succ, List.set_cons_zero, Nat.reduceAdd]
        refine wM_val ?ub4 rfl rfl (Deal.refl D) (fun w' hD => ?hb4) (fun phb4 => ?nb4)
        case hb4 =>
          obtain ⟨c0, c1, c2, c3, c4⟩ := FX.out w' hD.1
          go_simp; rfl
        simp only [Act.put, List.setIfInBounds_toArray, List.set_cons_succ, List.set_cons_zero, Nat.reduceAdd]
        refine wM_op _ rfl rfl (opens_call ?fb5 ?gb5 (fun w' hD => ?hb5) (fun w' hD => ?cb5)) (fun v5 hv5 => ?nb5)
        case hb5 => go_simp; constructor <;> rfl
        case cb5 =>
          refine (walked_any D _ f 1 cb w' hD.1.2 (HG.out w' hD.1) HM.out.ok HCB.out).mono ?_
          rintro e w2 ⟨l, A, q, B, rfl, hb, hh, hr, hB, ho⟩
          exact ⟨_, rfl, Deal.mk' hb hh, l, A, q, rfl, hr, own_lower ho (by have := hD.1.2.lt; omega)⟩
        obtain ⟨_, -, -, lb, Ab, qb, rfl, -⟩ := hv5
        simp only [Act.put, List.setIfInBounds_toArray, List.set_cons_succ, List.set_cons_zero, Nat.reduceAdd]
        refine wM_val ?ub6 rfl rfl (Deal.refl D) (fun w' hD => ?hb6) (fun phb6 => ?nb6)
        case hb6 =>
          obtain ⟨c0, c1, c2, c3, c4⟩ := FX.out w' hD.1
          go_simp; rfl
        simp only [Act.put, List.setIfInBounds_toArray, List.set_cons_succ, List.set_cons_zero, Nat.reduceAdd]
        refine wM_val ?ub7 rfl rfl (Deal.refl D) (fun w' hD => ?hb7) (fun phb7 => ?nb7)
        case hb7 =>
          obtain ⟨c0, c1, c2, c3, c4⟩ := FX.out w' hD.1
          go_simp; rfl
        simp only [Act.put, List.setIfInBounds_toArray, List.set_cons_succ, List.set_cons_zero, Nat.reduceAdd]
        refine wM_nil ?_
        intro w9 hw9 hF9
        obtain ⟨-, la2, A', q', ea, hra, hoa⟩ := hF9 2
        simp only [Value.slice.injEq] at ea
        obtain ⟨rfl, hle, rfl⟩ := ea
        obtain ⟨-, lb2, A'', q'', eb, hrb, hob⟩ := hF9 5
        simp only [Value.slice.injEq] at eb
        obtain ⟨rfl, hle2, rfl⟩ := eb
        rw [hle, hle2]
        have G9 := G5.bel hw9.1 hw9.2
        have HRA := hid hra
        have HRB := hid hrb
        clear hF9 FX HG hle hle2 G5 hh5 hw9 hra hrb
        obtain ⟨g, ega, -, -, hFg, -, -⟩ := G9.setRp HCA.out (A := none) (cA := 0) (rs := []) (own_nil _ _ _ _)
        have hh9 := G9.hp
        have HOA := hid hoa
        have HOB := hid hob
        have FX : Hid (∀ w', (Bel D w9 w' ∧ HeapR w' D) → w'.cell? ⟨F, 0, none⟩ = some (.int .i64 f.pl) ∧ w'.cell? ⟨F, 1, none⟩ = some (.int .i64 f.mi) ∧ w'.cell? ⟨F, 2, none⟩ = some (.slice s.a1 f.tr.length s.c1) ∧ w'.cell? ⟨F, 3, none⟩ = some (.slice s.a2 f.bl.length s.c2) ∧ w'.cell? ⟨F, 4, none⟩ = some (.slice (some ⟨g, 0, none⟩) f.ct.length s.c3)) := fun w' h => by
          have q := (G9.bel h.1 h.2).cells
          rw [ega] at q
          exact q
        have KT : Hid (∀ (c : Ct) (l : List Int) (A : Option Addr) (q : Nat) (w' : World), RealW f c l → w9.ownsRow (D + 1) 3 1 (.slice A l.length q) l.length (l.map (.int .i64)) → (Bel D w9 w' ∧ HeapR w' D) →
            Calls Tryz.prog 63 #[.pointer (some ⟨D, 0, none⟩), .agg #[.int .i64 f.pl, .int .i64 f.mi, .slice s.a1 f.tr.length s.c1, .slice s.a2 f.bl.length s.c2, .slice (some ⟨g, 0, none⟩) f.ct.length s.c3], .slice A l.length q, .int .i64 3] w' (ToldPost D w' f l)) := fun c l A q w' hr ho h => by
          have K := told_any D 3 _ f A q l (D + 1) w' h.2 (G9.bel h.1 h.2).g HM.out.ok hr.wl (h.1.own ho (fun g hg e => by have := (ho.lt g hg).1; omega)) (by decide)
          unfold Ads.val fval at K
          rw [ega] at K
          exact K
        obtain ⟨hq0, hq1⟩ : Bel D w9 w9.drew ∧ HeapR w9.drew D := ⟨(Bel.refl D w9).drew, hh9.ext (Ext.drew (Ext.refl _))⟩
        have hct0 : (0 : Int) < (f.ct.length : Int) := by have := HCT.out; omega
        have hct1 : (1 : Int) < (f.ct.length : Int) := by have := HCT.out; omega
        have hct0n : 0 < f.ct.length := by have := HCT.out; omega
        have hct1n : 1 < f.ct.length := by have := HCT.out; omega
        have hFg2 : g ≠ F := fun e => hFg e.symm
        go_wp2
        go_region_held3 (fun w' => w'.cell? ⟨F, 0, none⟩ = some (.int .i64 f.pl) ∧ w'.cell? ⟨F, 1, none⟩ = some (.int .i64 f.mi) ∧ w'.cell? ⟨F, 2, none⟩ = some (.slice s.a1 f.tr.length s.c1) ∧ w'.cell? ⟨F, 3, none⟩ = some (.slice s.a2 f.bl.length s.c2) ∧ w'.cell? ⟨F, 4, none⟩ = some (.slice (some ⟨g, 0, none⟩) f.ct.length s.c3))
          (first | exact FX.out _ ⟨hq0, hq1⟩ | exact FX.out _ ⟨Bel.refl _ _, hh9⟩ | exact FX.out _ ⟨hbT1', hhT1⟩ | exact FX.out _ ⟨hbT2', hhT2⟩ | (simp [go_sem, *]))
          (first
            | (go_at_call 63; refine (KT.out cb lb2 _ _ _ HRB.out HOB.out ⟨hbT1', hhT1⟩).mono ?_; rintro e wT2 ⟨rs2, AT2, cT2, BT2, rfl, hbT2, hhT2, hTR2, hBT2, hoT2⟩; have hbT2' := hbT1'.trans hbT2; have GT := G9.bel hbT2' hhT2; obtain ⟨u1, p1, u3, p3, fz⟩ := GT.rpTwo ega HCA.out HCB.out; have f1 := fz 1; have f3 := fz 3)
            | (go_at_call 63; refine (KT.out ca la2 _ _ _ HRA.out HOA.out ⟨hq0, hq1⟩).mono ?_; rintro e wT1 ⟨rs1, AT1, cT1, BT1, rfl, hbT1, hhT1, hTR1, hBT1, hoT1⟩; have hbT1' := hq0.trans hbT1))
        have hDw9 := hh9.lt
        have HT1 := hid hTR1
        have HT2 := hid hTR2
        have o1 : wT2.ownsRow (D + 1) 53 2 (.slice AT1 rs1.length cT1) rs1.length (layRp.rows rs1) := hbT2.own (own_lower hoT1 (by have := hq0.size; omega)) (fun g hg e => by have := (hoT1.lt g hg).1; have := hq0.size; omega)
        have o2 : wT2.ownsRow (D + 1) 53 2 (.slice AT2 rs2.length cT2) rs2.length (layRp.rows rs2) := own_lower hoT2 (by have := hbT1'.size; omega)
        obtain ⟨g1, ea1, GA, kA, -, -, -⟩ := GT.setRp HCA.out o1
        obtain rfl : g = g1 := by rw [ega] at ea1; injection ea1 with ea1; injection ea1
        have hcb1 : (withR f 0 ca rs1).ct[1]? = some cb := by unfold withR; simp only; rw [List.getElem?_set_ne (by decide)]; exact HCB.out
        obtain ⟨g2, ea2, GB, kB, -, -, -⟩ := GA.setRp hcb1 (kA (by decide) o2)
        obtain rfl : g = g2 := by rw [ega] at ea2; injection ea2 with ea2; injection ea2
        have ok1 := withR_ok HM.out.ok HCA.out HT1.out.bl HT1.out.one HT1.out.len
        have ok2 := withR_ok ok1 hcb1 HT2.out.bl HT2.out.one HT2.out.len
        have hck : checkF (withR (withR f 0 ca rs1) 1 cb rs2) = 0 := check_of ok2 HM.out.ag
        obtain ⟨f2, hf2⟩ : ∃ f2, withR (withR f 0 ca rs1) 1 cb rs2 = f2 := ⟨_, rfl⟩
        have HF2 : Hid (f2.ct[0]? = some ⟨ca.st, rs1⟩ ∧ f2.ct[1]? = some ⟨cb.st, rs2⟩ ∧ f2.mi = f.mi ∧ f2.pl = f.pl ∧ f2.tr = f.tr ∧ f2.bl = f.bl) := by
          rw [← hf2]
          unfold Hid withR
          have h2 : f.ct.length = 2 := HCT.out
          refine ⟨?_, ?_, rfl, rfl, rfl, rfl⟩
          · simp only; rw [List.getElem?_set_ne (by decide), List.getElem?_set_self (by omega)]
          · simp only; rw [List.getElem?_set_self (by simp; omega)]
        have HFI : Hid (fitsM (farM f2) f2 ⟨ca.st, rs1⟩ la2 = true ∧ fitsM (farM f2) f2 ⟨cb.st, rs2⟩ lb2 = true) := by
          rw [← hf2]
          exact ⟨real_fits ok2 (c := ⟨ca.st, rs1⟩) ⟨HRA.out.len, HRA.out.pl, HRA.out.st, HRA.out.step⟩ HT1.out.hd, real_fits ok2 (c := ⟨cb.st, rs2⟩) ⟨HRB.out.len, HRB.out.pl, HRB.out.st, HRB.out.step⟩ HT2.out.hd⟩
        rw [hf2] at GB hck ok2
        obtain ⟨w7, hw7⟩ : ∃ w7, (wT2.setCell ⟨g, 1, none⟩ (.slice AT1 rs1.length cT1)).setCell ⟨g, 3, none⟩ (.slice AT2 rs2.length cT2) = w7 := ⟨_, rfl⟩
        rw [show (0 : Nat) * 2 + 1 = 1 from rfl, show (1 : Nat) * 2 + 1 = 3 from rfl, hw7] at GB
        rw [hw7]
        have HOK2 := hid ok2
        have HCK2 := hid hck
        have hla := fits_found ok2 (mem_of_get HF2.out.1) HFI.out.1
        have hlb := fits_found ok2 (mem_of_get HF2.out.2.1) HFI.out.2
        have HSZ2 := hid (ok_sized ok2)
        obtain ⟨LN, hLN⟩ : ∃ LN, metM (farM f2) f2 ⟨ca.st, rs1⟩ ⟨cb.st, rs2⟩ = LN := ⟨_, rfl⟩
        obtain ⟨LO, hLO⟩ : ∃ LO, metM (farM f2) f2 ⟨ca.st, rs1⟩ ⟨ca.st, rs1⟩ = LO := ⟨_, rfl⟩
        have m01 := met_ok hck HF2.out.1 HF2.out.2.1 hla hlb
        have m10 := met_ok hck HF2.out.2.1 HF2.out.1 hlb hla
        have m00 := met_ok hck HF2.out.1 HF2.out.1 hla hla
        rw [hLN] at m01
        rw [trip_met_symm, hLN] at m10
        rw [hLO] at m00
        have HLOl : Hid (LO.length = f2.mi.toNat + 1) := by unfold Hid; rw [← hLO]; exact trip_met_own ok2 (mem_of_get HF2.out.1) hla
        have HLN := hid hLN
        have hln9 : LN.length ≤ 9 := by
          rw [← hLN]; unfold metM natI
          rw [List.length_map]
          have := ok2.mi
          exact Nat.le_trans (List.length_filter_le _ _) (by simp; omega)
        have hm2 := ok2.mi
        have K1 : Hid (Calls Tryz.prog 58 #[.agg #[.int .i64 f2.pl, .int .i64 f2.mi, .slice s.a1 f2.tr.length s.c1, .slice s.a2 f2.bl.length s.c2, .slice s.a3 f2.ct.length s.c3], .int .i64 0, .int .i64 1] w7 fun e w' => ∃ A k, e = .returned (.tuple #[.slice A LN.length k, .int .i64 0]) ∧ Ext w7 w' ∧ Ints w' A LN) := by
          refine (metx_any (s.val f2) f2 0 1 w7 GB.fg HSZ2.out).mono ?_
          rintro e w' ⟨r, rfl, h, A, k, rfl, hI, -⟩
          have e1 : metE f2 0 1 = 0 := m01.1
          have e2 : metV f2 0 1 = LN := m01.2
          rw [e2] at hI
          exact ⟨A, k, by rw [e1, e2], h, hI⟩
        have K2 : Hid (∀ w8, Ext w7 w8 → Calls Tryz.prog 58 #[.agg #[.int .i64 f2.pl, .int .i64 f2.mi, .slice s.a1 f2.tr.length s.c1, .slice s.a2 f2.bl.length s.c2, .slice s.a3 f2.ct.length s.c3], .int .i64 1, .int .i64 0] w8 fun e w' => ∃ A k, e = .returned (.tuple #[.slice A LN.length k, .int .i64 0]) ∧ Ext w8 w' ∧ Ints w' A LN) := fun w8 hx => by
          refine (metx_any (s.val f2) f2 1 0 w8 (GB.out hx).fg HSZ2.out).mono ?_
          rintro e w' ⟨r, rfl, h, A, k, rfl, hI, -⟩
          have e1 : metE f2 1 0 = 0 := m10.1
          have e2 : metV f2 1 0 = LN := m10.2
          rw [e2] at hI
          exact ⟨A, k, by rw [e1, e2], h, hI⟩
        have K3 : Hid (∀ w8, Ext w7 w8 → Calls Tryz.prog 58 #[.agg #[.int .i64 f2.pl, .int .i64 f2.mi, .slice s.a1 f2.tr.length s.c1, .slice s.a2 f2.bl.length s.c2, .slice s.a3 f2.ct.length s.c3], .int .i64 0, .int .i64 0] w8 fun e w' => ∃ A k, e = .returned (.tuple #[.slice A LO.length k, .int .i64 0]) ∧ Ext w8 w' ∧ Ints w' A LO) := fun w8 hx => by
          refine (metx_any (s.val f2) f2 0 0 w8 (GB.out hx).fg HSZ2.out).mono ?_
          rintro e w' ⟨r, rfl, h, A, k, rfl, hI, -⟩
          have e1 : metE f2 0 0 = 0 := m00.1
          have e2 : metV f2 0 0 = LO := m00.2
          rw [e2] at hI
          exact ⟨A, k, by rw [e1, e2], h, hI⟩
        have FX7 : Hid (∀ w', Ext w7 w' → w'.cell? ⟨F, 0, none⟩ = some (.int .i64 f2.pl) ∧ w'.cell? ⟨F, 1, none⟩ = some (.int .i64 f2.mi) ∧ w'.cell? ⟨F, 2, none⟩ = some (.slice s.a1 f2.tr.length s.c1) ∧ w'.cell? ⟨F, 3, none⟩ = some (.slice s.a2 f2.bl.length s.c2) ∧ w'.cell? ⟨F, 4, none⟩ = some (.slice s.a3 f2.ct.length s.c3)) := fun w' h => (GB.out h).cells
        have HLA7 : Hid (Ints w7 Aa la2) := by
          have h := kB (by decide) (kA (by decide) (hbT2'.own HOA.out (fun g hg e => by have := (HOA.out.lt g hg).1; omega)))
          rw [show (0 : Nat) * 2 + 1 = 1 from rfl, show (1 : Nat) * 2 + 1 = 3 from rfl, hw7] at h
          exact Rd.of_own h
        have HLB7 : Hid (Ints w7 Ab lb2) := by
          have h := kB (by decide) (kA (by decide) (hbT2'.own HOB.out (fun g hg e => by have := (HOB.out.lt g hg).1; omega)))
          rw [show (0 : Nat) * 2 + 1 = 1 from rfl, show (1 : Nat) * 2 + 1 = 3 from rfl, hw7] at h
          exact Rd.of_own h
        obtain ⟨xa0, hxa0⟩ := get_of_lt la2 0 (by have := HRA.out.len; omega)
        obtain ⟨xb0, hxb0⟩ := get_of_lt lb2 0 (by have := HRB.out.len; omega)
        obtain ⟨bA, oA, eA, -⟩ := Ints.at_ HLA7.out hxa0
        obtain ⟨bB, oB, eB, -⟩ := Ints.at_ HLB7.out hxb0
        subst eA
        subst eB
        clear hxa0 hxb0
        have HAT : Hid (∀ (m : Nat), m ≤ f2.mi.toNat → (atE f2 0 m = 0 ∧ atL f2 0 m = natI (canN (farM f2) f2 ⟨ca.st, rs1⟩ m)) ∧ (atE f2 1 m = 0 ∧ atL f2 1 m = natI (canN (farM f2) f2 ⟨cb.st, rs2⟩ m))) := fun m hm =>
          ⟨at_ok ok2 hck HF2.out.1 hla hm, at_ok ok2 hck HF2.out.2.1 hlb hm⟩
        have HGB := hid GB
        clear ega ea1 ea2
        clear GB GA kA kB GT o1 o2 hw7 ok1 ok2 hck hcb1 hla hlb hLN hLO m01 m10 m00 p1 p3 fz f1 f3 hbT1 hhT1 hbT1' hbT2 hhT2 hbT2' hoT1 hoT2 hTR1 hTR2 hh9 hq0 hq1 hf2
        obtain ⟨c0, c1, c2, c3, c4⟩ := FX7.out w7 (Ext.refl _)
        go_wp2_with fail
        refine K1.out.mono ?_
        rintro e w8 ⟨A8, k8, rfl, h8, hI8⟩
        clear c0 c1 c2 c3 c4 K1
        obtain ⟨c0, c1, c2, c3, c4⟩ := FX7.out w8 h8
        go_wp2_with fail
        refine (K2.out w8 h8).mono ?_
        rintro e w9' ⟨A9, k9, rfl, h9, hI9⟩
        clear c0 c1 c2 c3 c4 K2
        have h79 := h8.trans h9
        obtain ⟨c0, c1, c2, c3, c4⟩ := FX7.out w9' h79
        go_wp2_with fail
        refine (K3.out w9' h79).mono ?_
        rintro e w10 ⟨A10, k10, rfl, h10, hI10⟩
        clear c0 c1 c2 c3 c4 K3
        have h710 := h79.trans h10
        have HI8 : Hid (∀ w', Ext w10 w' → Ints w' A8 LN) := fun w' h => hI8.ext ((h9.trans h10).trans h)
        have HI9 := hid (hI9.ext h10)
        obtain ⟨c0, c1, c2, c3, c4⟩ := FX7.out w10 h710
        have KE := eq_int A8 A9 k8 k9 LN LN w10 (HI8.out w10 (Ext.refl _)) HI9.out (by omega) (by omega)
        rw [beq_self_eq_true] at KE
        have HKE := hid KE
        clear KE
        go_wp2_with fail
        clear c0 c1 c2 c3 c4
        refine HKE.out.mono ?_
        clear HKE
        rintro e w11 ⟨rfl, h11⟩
        have h711 := h710.trans h11
        obtain ⟨c0, c1, c2, c3, c4⟩ := FX7.out w11 h711
        have bo : ((LO.length : Int) != f2.mi + 1) = false := by
          have e1 := HLOl.out
          have e : (LO.length : Int) = f2.mi + 1 := by omega
          rw [e]; simp
        go_wp2
        clear c0 c1 c2 c3 c4
        go_loopw [132] (fun i132 wr => ∃ j : Nat, j ≤ la2.length ∧ i132 = .int .i64 (j : Int) ∧ Ext w11 wr) (fun i _ => la2.length - (intOf i).toNat)
        case atStart => exact ⟨0, Nat.zero_le _, rfl, Ext.refl _⟩
        case round =>
          obtain ⟨j, hj, rfl, hxr⟩ := hrel
          have h7r := h711.trans hxr
          by_cases hlt : j < la2.length
          · have hlt' : (j : Int) < (la2.length : Int) := by omega
            have hl1 := HRA.out.len
            have hl2 := HRB.out.len
            have hmj : j ≤ f2.mi.toNat := by rw [HF2.out.2.2.1]; omega
            have hl2' : (j : Int) < (lb2.length : Int) := by omega
            obtain ⟨⟨a1, a2⟩, a3, a4⟩ := HAT.out j hmj
            obtain ⟨LX, hLX⟩ : ∃ LX, natI (canN (farM f2) f2 ⟨ca.st, rs1⟩ j) = LX := ⟨_, rfl⟩
            obtain ⟨LY, hLY⟩ : ∃ LY, natI (canN (farM f2) f2 ⟨cb.st, rs2⟩ j) = LY := ⟨_, rfl⟩
            obtain ⟨BO, hBO⟩ : ∃ BO, metAt (farM f2) f2 ⟨ca.st, rs1⟩ ⟨cb.st, rs2⟩ j = BO := ⟨_, rfl⟩
            have hB1 : (LX.any fun x => memI x LY) = BO := by rw [← hLX, ← hLY, ← hBO]; exact met_any _ _ _ _ _
            have hB2 : memI (j : Int) LN = BO := by rw [← HLN.out, ← hBO]; exact trip_met_mem hmj
            have hx8 : LX.length ≤ 8 := by rw [← hLX]; exact (canN_lt HOK2.out.pl.2 j).2
            have hy8 : LY.length ≤ 8 := by rw [← hLY]; exact (canN_lt HOK2.out.pl.2 j).2
            rw [hLX] at a2
            rw [hLY] at a4
            obtain ⟨xa, hxa⟩ := get_of_lt la2 j hlt
            obtain ⟨xb, hxb⟩ := get_of_lt lb2 j (by omega)
            clear hl1 hl2
            have hxy : xa = xb → BO = true := fun e => by
              have q1 := fits_can HOK2.out (mem_of_get HF2.out.1) HFI.out.1 hmj
              have q2 := fits_can HOK2.out (mem_of_get HF2.out.2.1) HFI.out.2 hmj
              unfold wlAt at q1 q2
              rw [List.getD_eq_getElem?_getD, hxa] at q1
              rw [List.getD_eq_getElem?_getD, hxb, ← e] at q2
              rw [← hBO]
              exact trip_metAt_iff.2 ⟨_, q1, q2⟩
            have HXY := hid hxy
            have HB1 := hid hB1
            have HB2 := hid hB2
            have HXA := hid hxa
            have HXB := hid hxb
            have KA1 := at_any (s.val f2) f2 0 (j : Int) wr (HGB.out.out h7r).fg HSZ2.out
            have a1' : atE f2 0 (j : Int) = 0 := a1
            have a2' : atL f2 0 (j : Int) = LX := a2
            have a3' : atE f2 1 (j : Int) = 0 := a3
            have a4' : atL f2 1 (j : Int) = LY := a4
            unfold AtPost at KA1
            rw [a1', a2'] at KA1
            unfold Ads.val fval at KA1
            have HKA := hid KA1
            have KB1 : Hid (∀ w', Ext w7 w' → Calls Tryz.prog 55 #[.agg #[.int .i64 f2.pl, .int .i64 f2.mi, .slice s.a1 f2.tr.length s.c1, .slice s.a2 f2.bl.length s.c2, .slice s.a3 f2.ct.length s.c3], .int .i64 1, .int .i64 (j : Int)] w' fun e w2 => ∃ r, e = .returned (.tuple #[r, .int .i64 0]) ∧ Ext w' w2 ∧ IntsR w2 r LY) := fun w' h => by
              have K := at_any (s.val f2) f2 1 (j : Int) w' (HGB.out.out h).fg HSZ2.out
              unfold AtPost at K
              rw [a3', a4'] at K
              exact K
            clear KA1 a1 a2 a3 a4 a1' a2' a3' a4' hLX hLY hBO hB1 hB2 hxy hxa hxb
            obtain ⟨c0, c1, c2, c3, c4⟩ := FX7.out wr h7r
            go_wp2_with fail
            refine HKA.out.mono ?_
            rintro e w12 ⟨r, rfl, h12, A12, k12, rfl, hI12, -⟩
            clear c0 c1 c2 c3 c4 HKA
            obtain ⟨c0, c1, c2, c3, c4⟩ := FX7.out w12 (h7r.trans h12)
            go_wp2_with fail
            refine (KB1.out w12 (h7r.trans h12)).mono ?_
            rintro e w13 ⟨r, rfl, h13, A13, k13, rfl, hI13, -⟩
            clear c0 c1 c2 c3 c4 KB1
            obtain ⟨w14, hw14⟩ : ∃ w14, w13.alloc (.cells #[.slice A13 LY.length k13] 42) = w14 := ⟨_, rfl⟩
            have h14 : Ext w13 w14 := by rw [← hw14]; exact Ext.alloc (Ext.refl _) _
            have hbx : w14.cell? ⟨w13.heap.size, 0, none⟩ = some (.slice A13 LY.length k13) := by rw [← hw14]; simp [go_sem]
            have HKC := hid (containsFunc_int A12 k12 LX _ anyx _ w14 ((hI12.ext h13).ext h14) (by omega) (anyx_all LX) (lmet1_fn w14 w13.heap.size A13 k13 LY (by omega) hbx (hI13.ext h14)))
            rw [HB1.out] at HKC
            have HW14 := hid hw14
            clear hw14 hbx hI12 hI13
            go_wp2_with fail
            rw [HW14.out]
            clear HW14
            refine HKC.out.mono ?_
            rintro e w15 ⟨rfl, h15⟩
            have h1215 := (h12.trans h13).trans (h14.trans h15)
            have h715 := h7r.trans h1215
            clear HKC
            obtain ⟨kAj, kBj⟩ : w15.cell? ⟨bA, oA + j, none⟩ = some (.int .i64 xa) ∧ w15.cell? ⟨bB, oB + j, none⟩ = some (.int .i64 xb) := by
              obtain ⟨b1, o1, e1, k1⟩ := Ints.at_ (HLA7.out.ext h715) HXA.out
              obtain ⟨b2, o2, e2, k2⟩ := Ints.at_ (HLB7.out.ext h715) HXB.out
              cases e1
              cases e2
              exact ⟨k1, k2⟩
            have KC : Hid (∀ w', Ext w15 w' → Calls Tryz.prog 66 #[.slice A8 LN.length k8, .int .i64 (j : Int)] w' fun e w2 => e = .returned (.bool BO) ∧ Ext w' w2) := fun w' h => by
              have K := containsI_any (j : Int) A8 k8 LN w' (HI8.out w' ((h11.trans hxr).trans (h1215.trans h))) (by omega)
              rw [HB2.out] at K
              exact K.mono fun e w2 ⟨e1, e2⟩ => ⟨e1, e2 ▸ Ext.refl _⟩
            have FXJ : Hid (∀ w', Ext w15 w' → w'.cell? ⟨bA, oA + j, none⟩ = some (.int .i64 xa) ∧ w'.cell? ⟨bB, oB + j, none⟩ = some (.int .i64 xb)) := fun w' h => ⟨h.cell kAj, h.cell kBj⟩
            clear kAj kBj
            have bbo : (BO != BO) = false := by simp
            by_cases hxe : xa = xb
            · have bx : (xa == xb) = true := by simp [hxe]
              obtain rfl := HXY.out hxe
              clear hxe
              go_wp2
              refine wp_region_shut Ext (fun w' => Ext w15 w') (fun
                | 10 => some (fun v w' => v = .bool true)
                | _ => none) (by kernel_rfl) (by kernel_rfl) (fun _ _ h k => h.trans k) ?hTra (Ext.drew (Ext.refl w15)) ?_
              case hTra =>
                intro i R hR
                match i, hR with
                | 10, hR => cases hR; exact fun _ _ _ h _ => h
              refine wM_val ?ura0 rfl rfl Ext.refl (fun w' hD => ?hra0) (fun phra0 => ?nra0)
              case hra0 =>
                obtain ⟨d0, d1⟩ := FXJ.out w' hD.1
                go_simp; rfl
              simp only [Act.put, List.setIfInBounds_toArray, List.set_cons_succ, List.set_cons_zero, Nat.reduceAdd]
              refine wM_val ?ura1 rfl rfl Ext.refl (fun w' hD => ?hra1) (fun phra1 => ?nra1)
              case hra1 =>
                obtain ⟨d0, d1⟩ := FXJ.out w' hD.1
                go_simp; rfl
              simp only [Act.put, List.setIfInBounds_toArray, List.set_cons_succ, List.set_cons_zero, Nat.reduceAdd]
              refine wM_val ?ura2 rfl rfl Ext.refl (fun w' hD => ?hra2) (fun phra2 => ?nra2)
              case hra2 =>
                obtain ⟨d0, d1⟩ := FXJ.out w' hD.1
                go_simp; rfl
              simp only [Act.put, List.setIfInBounds_toArray, List.set_cons_succ, List.set_cons_zero, Nat.reduceAdd]
              refine wM_val ?ura3 rfl rfl Ext.refl (fun w' hD => ?hra3) (fun phra3 => ?nra3)
              case hra3 =>
                obtain ⟨d0, d1⟩ := FXJ.out w' hD.1
                go_simp; rfl
              simp only [Act.put, List.setIfInBounds_toArray, List.set_cons_succ, List.set_cons_zero, Nat.reduceAdd]
              refine wM_val ?ura4 rfl rfl Ext.refl (fun w' hD => ?hra4) (fun phra4 => ?nra4)
              case hra4 =>
                obtain ⟨d0, d1⟩ := FXJ.out w' hD.1
                go_simp; rfl
              simp only [Act.put, List.setIfInBounds_toArray, List.set_cons_succ, List.set_cons_zero, Nat.reduceAdd]
              refine wM_val ?ura5 rfl rfl Ext.refl (fun w' hD => ?hra5) (fun phra5 => ?nra5)
              case hra5 =>
                obtain ⟨d0, d1⟩ := FXJ.out w' hD.1
                go_simp; rfl
              simp only [Act.put, List.setIfInBounds_toArray, List.set_cons_succ, List.set_cons_zero, Nat.reduceAdd]
              refine wM_val ?ura6 rfl rfl Ext.refl (fun w' hD => ?hra6) (fun phra6 => ?nra6)
              case hra6 =>
                obtain ⟨d0, d1⟩ := FXJ.out w' hD.1
                go_simp; rfl
              simp only [Act.put, List.setIfInBounds_toArray, List.set_cons_succ, List.set_cons_zero, Nat.reduceAdd]
              refine wM_val ?ura7 rfl rfl Ext.refl (fun w' hD => ?hra7) (fun phra7 => ?nra7)
              case hra7 =>
                obtain ⟨d0, d1⟩ := FXJ.out w' hD.1
                go_simp; rfl
              simp only [Act.put, List.setIfInBounds_toArray, List.set_cons_succ, List.set_cons_zero, Nat.reduceAdd]
              refine wM_val ?ura8 rfl rfl Ext.refl (fun w' hD => ?hra8) (fun phra8 => ?nra8)
              case hra8 =>
                obtain ⟨d0, d1⟩ := FXJ.out w' hD.1
                go_simp; rfl
              simp only [Act.put, List.setIfInBounds_toArray, List.set_cons_succ, List.set_cons_zero, Nat.reduceAdd]
              refine wM_val ?ura9 rfl rfl Ext.refl (fun w' hD => ?hra9) (fun phra9 => ?nra9)
              case hra9 =>
                obtain ⟨d0, d1⟩ := FXJ.out w' hD.1
                go_simp; rfl
              simp only [Act.put, List.setIfInBounds_toArray, List.set_cons_succ, List.set_cons_zero, Nat.reduceAdd]
              refine wM_op _ rfl rfl (opens_call ?fra10 ?gra10 (fun w' hD => ?hra10) (fun w' hD => ?cra10)) (fun v10 hv10 => ?nra10)
              case hra10 => go_simp; constructor <;> rfl
              case cra10 =>
                refine (KC.out w' hD.1).mono ?_
                rintro e w2 ⟨rfl, hb⟩
                exact ⟨_, rfl, hb, rfl⟩
              obtain ⟨_, -, -, rfl⟩ := hv10
              simp only [Act.put, List.setIfInBounds_toArray, List.set_cons_succ, List.set_cons_zero, Nat.reduceAdd]
              refine wM_val ?ura11 rfl rfl Ext.refl (fun w' hD => ?hra11) (fun phra11 => ?nra11)
              case hra11 =>
                obtain ⟨d0, d1⟩ := FXJ.out w' hD.1
                go_simp; rfl
              simp only [Act.put, List.setIfInBounds_toArray, List.set_cons_succ, List.set_cons_zero, Nat.reduceAdd]
              refine wM_val ?ura12 rfl rfl Ext.refl (fun w' hD => ?hra12) (fun phra12 => ?nra12)
              case hra12 =>
                obtain ⟨d0, d1⟩ := FXJ.out w' hD.1
                go_simp; rfl
              simp only [Act.put, List.setIfInBounds_toArray, List.set_cons_succ, List.set_cons_zero, Nat.reduceAdd]
              refine wM_val ?ura13 rfl rfl Ext.refl (fun w' hD => ?hra13) (fun phra13 => ?nra13)
              case hra13 =>
                obtain ⟨d0, d1⟩ := FXJ.out w' hD.1
                go_simp; rfl
              simp only [Act.put, List.setIfInBounds_toArray, List.set_cons_succ, List.set_cons_zero, Nat.reduceAdd]
              refine wM_val ?ura14 rfl rfl Ext.refl (fun w' hD => ?hra14) (fun phra14 => ?nra14)
              case hra14 =>
                obtain ⟨d0, d1⟩ := FXJ.out w' hD.1
                go_simp; rfl
              simp only [Act.put, List.setIfInBounds_toArray, List.set_cons_succ, List.set_cons_zero, Nat.reduceAdd]
              refine wM_val ?ura15 rfl rfl Ext.refl (fun w' hD => ?hra15) (fun phra15 => ?nra15)
              case hra15 =>
                obtain ⟨d0, d1⟩ := FXJ.out w' hD.1
                go_simp; rfl
              simp only [Act.put, List.setIfInBounds_toArray, List.set_cons_succ, List.set_cons_zero, Nat.reduceAdd]
              refine wM_val ?ura16 rfl rfl Ext.refl (fun w' hD => ?hra16) (fun phra16 => ?nra16)
              case hra16 =>
                obtain ⟨d0, d1⟩ := FXJ.out w' hD.1
                go_simp; rfl
              simp only [Act.put, List.setIfInBounds_toArray, List.set_cons_succ, List.set_cons_zero, Nat.reduceAdd]
              refine wM_val ?ura17 rfl rfl Ext.refl (fun w' hD => ?hra17) (fun phra17 => ?nra17)
              case hra17 =>
                obtain ⟨d0, d1⟩ := FXJ.out w' hD.1
                go_simp; rfl
              simp only [Act.put, List.setIfInBounds_toArray, List.set_cons_succ, List.set_cons_zero, Nat.reduceAdd]
              refine wM_val ?ura18 rfl rfl Ext.refl (fun w' hD => ?hra18) (fun phra18 => ?nra18)
              case hra18 =>
                obtain ⟨d0, d1⟩ := FXJ.out w' hD.1
                go_simp; rfl
              simp only [Act.put, List.setIfInBounds_toArray, List.set_cons_succ, List.set_cons_zero, Nat.reduceAdd]
              refine wM_val ?ura19 rfl rfl Ext.refl (fun w' hD => ?hra19) (fun phra19 => ?nra19)
              case hra19 =>
                obtain ⟨d0, d1⟩ := FXJ.out w' hD.1
                go_simp; rfl
              simp only [Act.put, List.setIfInBounds_toArray, List.set_cons_succ, List.set_cons_zero, Nat.reduceAdd]
              refine wM_val ?ura20 rfl rfl Ext.refl (fun w' hD => ?hra20) (fun phra20 => ?nra20)
              case hra20 =>
                obtain ⟨d0, d1⟩ := FXJ.out w' hD.1
                go_simp; rfl
              simp only [Act.put, List.setIfInBounds_toArray, List.set_cons_succ, List.set_cons_zero, Nat.reduceAdd]
              refine wM_val ?ura21 rfl rfl Ext.refl (fun w' hD => ?hra21) (fun phra21 => ?nra21)
              case hra21 =>
                obtain ⟨d0, d1⟩ := FXJ.out w' hD.1
                go_simp; rfl
              simp only [Act.put, List.setIfInBounds_toArray, List.set_cons_succ, List.set_cons_zero, Nat.reduceAdd]
              refine wM_val ?ura22 rfl rfl Ext.refl (fun w' hD => ?hra22) (fun phra22 => ?nra22)
              case hra22 =>
                obtain ⟨d0, d1⟩ := FXJ.out w' hD.1
                go_simp; rfl
              simp only [Act.put, List.setIfInBounds_toArray, List.set_cons_succ, List.set_cons_zero, Nat.reduceAdd]
              refine wM_val ?ura23 rfl rfl Ext.refl (fun w' hD => ?hra23) (fun phra23 => ?nra23)
              case hra23 =>
                obtain ⟨d0, d1⟩ := FXJ.out w' hD.1
                go_simp; rfl
              simp only [Act.put, List.setIfInBounds_toArray, List.set_cons_succ, List.set_cons_zero, Nat.reduceAdd]
              refine wM_val ?ura24 rfl rfl Ext.refl (fun w' hD => ?hra24) (fun phra24 => ?nra24)
              case hra24 =>
                obtain ⟨d0, d1⟩ := FXJ.out w' hD.1
                go_simp; rfl
              simp only [Act.put, List.setIfInBounds_toArray, List.set_cons_succ, List.set_cons_zero, Nat.reduceAdd]
              refine wM_val ?ura25 rfl rfl Ext.refl (fun w' hD => ?hra25) (fun phra25 => ?nra25)
              case hra25 =>
                obtain ⟨d0, d1⟩ := FXJ.out w' hD.1
                go_simp; rfl
              simp only [Act.put, List.setIfInBounds_toArray, List.set_cons_succ, List.set_cons_zero, Nat.reduceAdd]
              refine wM_val ?ura26 rfl rfl Ext.refl (fun w' hD => ?hra26) (fun phra26 => ?nra26)
              case hra26 =>
                obtain ⟨d0, d1⟩ := FXJ.out w' hD.1
                go_simp; rfl
              simp only [Act.put, List.setIfInBounds_toArray, List.set_cons_succ, List.set_cons_zero, Nat.reduceAdd]
              refine wM_val ?ura27 rfl rfl Ext.refl (fun w' hD => ?hra27) (fun phra27 => ?nra27)
              case hra27 =>
                obtain ⟨d0, d1⟩ := FXJ.out w' hD.1
                go_simp; rfl
              simp only [Act.put, List.setIfInBounds_toArray, List.set_cons_succ, List.set_cons_zero, Nat.reduceAdd]
              refine wM_nil ?_
              intro w9 hw9 hF9
              clear hF9
              have hxN := hxr.trans (h1215.trans hw9)
              have hjN : j + 1 ≤ la2.length := hlt
              clear KC FXJ HB1 HB2 HXA HXB
              go_wp2
              go_roundw
              case rel => exact ⟨j + 1, hjN, by go_num, hxN⟩
              case measure => simp [intOf]; omega
            · have bx : (xa == xb) = false := by simpa using hxe
              clear hxe
              go_wp2
              refine wp_region_shut Ext (fun w' => Ext w15 w') (fun
                | 10 => some (fun v w' => v = .bool BO)
                | _ => none) (by kernel_rfl) (by kernel_rfl) (fun _ _ h k => h.trans k) ?hTrb (Ext.drew (Ext.refl w15)) ?_
              case hTrb =>
                intro i R hR
                match i, hR with
                | 10, hR => cases hR; exact fun _ _ _ h _ => h
              refine wM_val ?urb0 rfl rfl Ext.refl (fun w' hD => ?hrb0) (fun phrb0 => ?nrb0)
              case hrb0 =>
                obtain ⟨d0, d1⟩ := FXJ.out w' hD.1
                go_simp; rfl
              simp only [Act.put, List.setIfInBounds_toArray, List.set_cons_succ, List.set_cons_zero, Nat.reduceAdd]
              refine wM_val ?urb1 rfl rfl Ext.refl (fun w' hD => ?hrb1) (fun phrb1 => ?nrb1)
              case hrb1 =>
                obtain ⟨d0, d1⟩ := FXJ.out w' hD.1
                go_simp; rfl
              simp only [Act.put, List.setIfInBounds_toArray, List.set_cons_succ, List.set_cons_zero, Nat.reduceAdd]
              refine wM_val ?urb2 rfl rfl Ext.refl (fun w' hD => ?hrb2) (fun phrb2 => ?nrb2)
              case hrb2 =>
                obtain ⟨d0, d1⟩ := FXJ.out w' hD.1
                go_simp; rfl
              simp only [Act.put, List.setIfInBounds_toArray, List.set_cons_succ, List.set_cons_zero, Nat.reduceAdd]
              refine wM_val ?urb3 rfl rfl Ext.refl (fun w' hD => ?hrb3) (fun phrb3 => ?nrb3)
              case hrb3 =>
                obtain ⟨d0, d1⟩ := FXJ.out w' hD.1
                go_simp; rfl
              simp only [Act.put, List.setIfInBounds_toArray, List.set_cons_succ, List.set_cons_zero, Nat.reduceAdd]
              refine wM_val ?urb4 rfl rfl Ext.refl (fun w' hD => ?hrb4) (fun phrb4 => ?nrb4)
              case hrb4 =>
                obtain ⟨d0, d1⟩ := FXJ.out w' hD.1
                go_simp; rfl
              simp only [Act.put, List.setIfInBounds_toArray, List.set_cons_succ, List.set_cons_zero, Nat.reduceAdd]
              refine wM_val ?urb5 rfl rfl Ext.refl (fun w' hD => ?hrb5) (fun phrb5 => ?nrb5)
              case hrb5 =>
                obtain ⟨d0, d1⟩ := FXJ.out w' hD.1
                go_simp; rfl
              simp only [Act.put, List.setIfInBounds_toArray, List.set_cons_succ, List.set_cons_zero, Nat.reduceAdd]
              refine wM_val ?urb6 rfl rfl Ext.refl (fun w' hD => ?hrb6) (fun phrb6 => ?nrb6)
              case hrb6 =>
                obtain ⟨d0, d1⟩ := FXJ.out w' hD.1
                go_simp; rfl
              simp only [Act.put, List.setIfInBounds_toArray, List.set_cons_succ, List.set_cons_zero, Nat.reduceAdd]
              refine wM_val ?urb7 rfl rfl Ext.refl (fun w' hD => ?hrb7) (fun phrb7 => ?nrb7)
              case hrb7 =>
                obtain ⟨d0, d1⟩ := FXJ.out w' hD.1
                go_simp; rfl
              simp only [Act.put, List.setIfInBounds_toArray, List.set_cons_succ, List.set_cons_zero, Nat.reduceAdd]
              refine wM_val ?urb8 rfl rfl Ext.refl (fun w' hD => ?hrb8) (fun phrb8 => ?nrb8)
              case hrb8 =>
                obtain ⟨d0, d1⟩ := FXJ.out w' hD.1
                go_simp; rfl
              simp only [Act.put, List.setIfInBounds_toArray, List.set_cons_succ, List.set_cons_zero, Nat.reduceAdd]
              refine wM_val ?urb9 rfl rfl Ext.refl (fun w' hD => ?hrb9) (fun phrb9 => ?nrb9)
              case hrb9 =>
                obtain ⟨d0, d1⟩ := FXJ.out w' hD.1
                go_simp; rfl
              simp only [Act.put, List.setIfInBounds_toArray, List.set_cons_succ, List.set_cons_zero, Nat.reduceAdd]
              refine wM_op _ rfl rfl (opens_call ?frb10 ?grb10 (fun w' hD => ?hrb10) (fun w' hD => ?crb10)) (fun v10 hv10 => ?nrb10)
              case hrb10 => go_simp; constructor <;> rfl
              case crb10 =>
                refine (KC.out w' hD.1).mono ?_
                rintro e w2 ⟨rfl, hb⟩
                exact ⟨_, rfl, hb, rfl⟩
              obtain ⟨_, -, -, rfl⟩ := hv10
              simp only [Act.put, List.setIfInBounds_toArray, List.set_cons_succ, List.set_cons_zero, Nat.reduceAdd]
              refine wM_val ?urb11 rfl rfl Ext.refl (fun w' hD => ?hrb11) (fun phrb11 => ?nrb11)
              case hrb11 =>
                obtain ⟨d0, d1⟩ := FXJ.out w' hD.1
                go_simp; rfl
              simp only [Act.put, List.setIfInBounds_toArray, List.set_cons_succ, List.set_cons_zero, Nat.reduceAdd]
              refine wM_val ?urb12 rfl rfl Ext.refl (fun w' hD => ?hrb12) (fun phrb12 => ?nrb12)
              case hrb12 =>
                obtain ⟨d0, d1⟩ := FXJ.out w' hD.1
                go_simp; rfl
              simp only [Act.put, List.setIfInBounds_toArray, List.set_cons_succ, List.set_cons_zero, Nat.reduceAdd]
              refine wM_val ?urb13 rfl rfl Ext.refl (fun w' hD => ?hrb13) (fun phrb13 => ?nrb13)
              case hrb13 =>
                obtain ⟨d0, d1⟩ := FXJ.out w' hD.1
                go_simp; rfl
              simp only [Act.put, List.setIfInBounds_toArray, List.set_cons_succ, List.set_cons_zero, Nat.reduceAdd]
              refine wM_val ?urb14 rfl rfl Ext.refl (fun w' hD => ?hrb14) (fun phrb14 => ?nrb14)
              case hrb14 =>
                obtain ⟨d0, d1⟩ := FXJ.out w' hD.1
                go_simp; rfl
              simp only [Act.put, List.setIfInBounds_toArray, List.set_cons_succ, List.set_cons_zero, Nat.reduceAdd]
              refine wM_val ?urb15 rfl rfl Ext.refl (fun w' hD => ?hrb15) (fun phrb15 => ?nrb15)
              case hrb15 =>
                obtain ⟨d0, d1⟩ := FXJ.out w' hD.1
                go_simp; rfl
              simp only [Act.put, List.setIfInBounds_toArray, List.set_cons_succ, List.set_cons_zero, Nat.reduceAdd]
              refine wM_val ?urb16 rfl rfl Ext.refl (fun w' hD => ?hrb16) (fun phrb16 => ?nrb16)
              case hrb16 =>
                obtain ⟨d0, d1⟩ := FXJ.out w' hD.1
                go_simp; rfl
              simp only [Act.put, List.setIfInBounds_toArray, List.set_cons_succ, List.set_cons_zero, Nat.reduceAdd]
              refine wM_val ?urb17 rfl rfl Ext.refl (fun w' hD => ?hrb17) (fun phrb17 => ?nrb17)
              case hrb17 =>
                obtain ⟨d0, d1⟩ := FXJ.out w' hD.1
                go_simp; rfl
              simp only [Act.put, List.setIfInBounds_toArray, List.set_cons_succ, List.set_cons_zero, Nat.reduceAdd]
              refine wM_val ?urb18 rfl rfl Ext.refl (fun w' hD => ?hrb18) (fun phrb18 => ?nrb18)
              case hrb18 =>
                obtain ⟨d0, d1⟩ := FXJ.out w' hD.1
                go_simp; rfl
              simp only [Act.put, List.setIfInBounds_toArray, List.set_cons_succ, List.set_cons_zero, Nat.reduceAdd]
              refine wM_val ?urb19 rfl rfl Ext.refl (fun w' hD => ?hrb19) (fun phrb19 => ?nrb19)
              case hrb19 =>
                obtain ⟨d0, d1⟩ := FXJ.out w' hD.1
                go_simp; rfl
              simp only [Act.put, List.setIfInBounds_toArray, List.set_cons_succ, List.set_cons_zero, Nat.reduceAdd]
              refine wM_val ?urb20 rfl rfl Ext.refl (fun w' hD => ?hrb20) (fun phrb20 => ?nrb20)
              case hrb20 =>
                obtain ⟨d0, d1⟩ := FXJ.out w' hD.1
                go_simp; rfl
              simp only [Act.put, List.setIfInBounds_toArray, List.set_cons_succ, List.set_cons_zero, Nat.reduceAdd]
              refine wM_val ?urb21 rfl rfl Ext.refl (fun w' hD => ?hrb21) (fun phrb21 => ?nrb21)
              case hrb21 =>
                obtain ⟨d0, d1⟩ := FXJ.out w' hD.1
                go_simp; rfl
              simp only [Act.put, List.setIfInBounds_toArray, List.set_cons_succ, List.set_cons_zero, Nat.reduceAdd]
              refine wM_val ?urb22 rfl rfl Ext.refl (fun w' hD => ?hrb22) (fun phrb22 => ?nrb22)
              case hrb22 =>
                obtain ⟨d0, d1⟩ := FXJ.out w' hD.1
                go_simp; rfl
              simp only [Act.put, List.setIfInBounds_toArray, List.set_cons_succ, List.set_cons_zero, Nat.reduceAdd]
              refine wM_val ?urb23 rfl rfl Ext.refl (fun w' hD => ?hrb23) (fun phrb23 => ?nrb23)
              case hrb23 =>
                obtain ⟨d0, d1⟩ := FXJ.out w' hD.1
                go_simp; rfl
              simp only [Act.put, List.setIfInBounds_toArray, List.set_cons_succ, List.set_cons_zero, Nat.reduceAdd]
              refine wM_skip rfl ?_
              simp only [Act.put, List.setIfInBounds_toArray, List.set_cons_succ, List.set_cons_zero, Nat.reduceAdd]
              refine wM_skip rfl ?_
              simp only [Act.put, List.setIfInBounds_toArray, List.set_cons_succ, List.set_cons_zero, Nat.reduceAdd]
              refine wM_val ?urb26 rfl rfl Ext.refl (fun w' hD => ?hrb26) (fun phrb26 => ?nrb26)
              case hrb26 =>
                obtain ⟨d0, d1⟩ := FXJ.out w' hD.1
                go_simp; rfl
              simp only [Act.put, List.setIfInBounds_toArray, List.set_cons_succ, List.set_cons_zero, Nat.reduceAdd]
              refine wM_val ?urb27 rfl rfl Ext.refl (fun w' hD => ?hrb27) (fun phrb27 => ?nrb27)
              case hrb27 =>
                obtain ⟨d0, d1⟩ := FXJ.out w' hD.1
                go_simp; rfl
              simp only [Act.put, List.setIfInBounds_toArray, List.set_cons_succ, List.set_cons_zero, Nat.reduceAdd]
              refine wM_nil ?_
              intro w9 hw9 hF9
              clear hF9
              have hxN := hxr.trans (h1215.trans hw9)
              have hjN : j + 1 ≤ la2.length := hlt
              clear KC FXJ HB1 HB2 HXA HXB
              go_wp2
              go_roundw
              case rel => exact ⟨j + 1, hjN, by go_num, hxN⟩
              case measure => simp [intOf]; omega
          · have hlt' : ¬ (j : Int) < (la2.length : Int) := by omega
            have hend := HGB.out.out h7r
            go_wp2_with fail
            refine (awake_any wr).mono ?_
            rintro e w16 ⟨rfl, h16⟩
            have hfin := hend.ext.trans h16
            go_wp2
            go_ret
            exact ⟨rfl, hfin⟩
end Go.Proofs.YtpbpcplboikpcaaGreat
