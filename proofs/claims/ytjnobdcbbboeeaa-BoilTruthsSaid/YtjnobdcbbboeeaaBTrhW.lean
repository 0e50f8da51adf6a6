/- The walk of BoilTruths. Printed by my gen_btrh.py. -/
import Derived.Test.YtjnobdcbbboeeaaBCmp
import Derived.Test.YtjnobdcbbboeeaaBDupL
import Derived.Test.YtjnobdcbbboeeaaBRf3
import Derived.Test.YtjnobdcbbboeeaaHa
import Derived.Deep.DeepCutAuto
import Derived.Deep.CutBlock
import Derived.Deep.QuietTactic
import Derived.BigQuiet
import Derived.OwnWalk
namespace Go.Proofs.Ytjnobdcbbboeeaa
open Go Go.RowKit Go.Shelf
set_option linter.unusedVariables false
set_option linter.unusedSimpArgs false

set_option maxRecDepth 100000 in
set_option maxHeartbeats 8000000 in
theorem boiltruths_any (v : Value) (h : Hs) (Ar : Option Addr) (cr : Nat) (l : List Rt) (w : World) (hr : HsR w v h) (hs : h.sized) (hA : Prs w Ar l) (hl : l.length ≤ 9223372036854775807) :
    Calls Try.prog 11 #[v, .slice Ar l.length cr] w fun e w' => e = .returned (.bool true) ∧ Below w.heap.size w w' := by
  obtain ⟨A, c, rfl, hrw, hcap⟩ := hr
  obtain ⟨N, hN⟩ : ∃ N : Nat, h.ws.length = N := ⟨_, rfl⟩
  have HN := hid hN
  unfold hval
  rw [hN]
  obtain ⟨W0, hW0⟩ : ∃ W0, w.alloc (.cells #[.int .i64 h.mo, .int .i64 h.pk, .slice A N c] 25) = W0 := ⟨_, rfl⟩
  have hx0 : Ext w W0 := by rw [← hW0]; exact Ext.alloc (Ext.refl w) _
  have b0 : W0.heap[w.heap.size]? = some (.cells #[.int .i64 h.mo, .int .i64 h.pk, .slice A N c] 25 (0, 0)) := by rw [← hW0]; exact heap_alloc_new w _
  have FH : Hid (∀ w', Ext W0 w' → w'.cell? ⟨w.heap.size, 0, none⟩ = some (.int .i64 h.mo) ∧ w'.cell? ⟨w.heap.size, 1, none⟩ = some (.int .i64 h.pk) ∧ w'.cell? ⟨w.heap.size, 2, none⟩ = some (.slice A N c)) := fun w' hx => by
    obtain ⟨q0, q1, q2, -⟩ := house_cells b0
    exact ⟨hx.cell q0, hx.cell q1, hx.cell q2⟩
  have HR : Hid (∀ w', Ext W0 w' → HsR w' (.agg #[.int .i64 h.mo, .int .i64 h.pk, .slice A N c]) h) := fun w' hx => ⟨A, c, by unfold hval; rw [hN], Rows.ext hrw (hx0.trans hx), hcap⟩
  have HS := hid hs
  have HW0 := hid hW0
  clear hW0 b0 hrw hcap hN
  have HA : Hid (∀ w', Ext W0 w' → Prs w' Ar l) := fun w' hx => Rows.ext hA (hx0.trans hx)
  obtain ⟨M, hM⟩ : ∃ M : Nat, l.length = M := ⟨_, rfl⟩
  have HM := hid hM
  rw [hM] at hl ⊢
  clear hM hA hs
  have KG := hid (great_any _ h W0 (HR.out W0 (Ext.refl _)))
  rw [HN.out] at KG
  go_enter Try.func11, Try.ntmps11
  go_upto_region 1 with fail
  rw [HW0.out]
  clear HW0
  obtain ⟨c0, c1, c2⟩ := FH.out W0 (Ext.refl _)
  go_wp2_with fail
  refine KG.out.mono ?_
  rintro e w1 ⟨rfl, hx1⟩
  clear KG c0 c1 c2
  by_cases hg : 20 < N
  · have hgd : decide (20 < N) = true := decide_eq_true hg
    rw [hgd]
    clear hgd
    go_wp2_with fail
    refine (awake_any _).mono ?_
    rintro e wq ⟨rfl, hxq⟩
    go_wp2
    go_ret
    exact ⟨rfl, hx0.trans (hx1.trans hxq)⟩
  have hgd : decide (20 < N) = false := decide_eq_false hg
  rw [hgd]
  clear hgd
  by_cases hg2 : 20 < M
  · have hg2' : (M : Int) > 20 := by omega
    go_wp2_with fail
    refine (awake_any _).mono ?_
    rintro e wq ⟨rfl, hxq⟩
    go_wp2
    go_ret
    exact ⟨rfl, hx0.trans (hx1.trans hxq)⟩
  have hg2' : ¬ (M : Int) > 20 := by omega
  go_upto_region 3 with fail
  have hn20 : N ≤ 20 := by omega
  have hm20 : M ≤ 20 := by omega
  have hx01 := hx1
  clear hg hg2 hg2' hl
  refine wp_region_shut_tail Ext (fun w' => Ext W0 w') (fun
    | 1 => some (fun v w' => ∃ g k, v = .agg #[.int .i64 h.mo, .int .i64 h.pk, .slice (some ⟨g, 0, none⟩) N k] ∧ w'.ownsRow W0.heap.size 55 5 (.slice (some ⟨g, 0, none⟩) N k) N (layWg.rows h.ws))
    | 3 => some (fun v w' => ∃ g k, v = .slice (some ⟨g, 0, none⟩) M k ∧ w'.ownsRow W0.heap.size 43 2 (.slice (some ⟨g, 0, none⟩) M k) M (layPr.rows l))
    | 5 => some (fun v w' => ∃ A2 k, v = .agg #[.int .i64 h.mo, .int .i64 h.pk, .slice A2 N k] ∧ w'.ownsRow W0.heap.size 92 5 (.slice A2 N k) N (layWg.rows h.ws))
    | 6 => some (fun v w' => ∃ b, v = .pointer (some ⟨b, 0, none⟩) ∧ W0.heap.size ≤ b ∧ w'.heap[b]? = some (.cells #[.int .i64 0, .int .i64 0, .slice none 0 0] 25 (0, 0)))
    | 7 => some (fun v w' => ∃ b, v = .pointer (some ⟨b, 0, none⟩) ∧ W0.heap.size ≤ b ∧ w'.heap[b]? = some (.cells #[.int .i64 0, .int .i64 0, .slice none 0 0] 75 (0, 0)))
    | _ => none) 8 (by kernel_rfl) (by kernel_rfl) (fun _ _ h k => h.trans k) ?hTt (hx01.trans (Ext.drew (Ext.refl _))) ?_
  case hTt =>
    intro i R hR
    match i, hR with
    | 1, hR => cases hR; exact fun v _ _ h hx => by obtain ⟨g, k, e, ho⟩ := h; exact ⟨g, k, e, own_below ho hx⟩
    | 3, hR => cases hR; exact fun v _ _ h hx => by obtain ⟨g, k, e, ho⟩ := h; exact ⟨g, k, e, own_below ho hx⟩
    | 5, hR => cases hR; exact fun v _ _ h hx => by obtain ⟨g, k, e, ho⟩ := h; exact ⟨g, k, e, own_below ho hx⟩
    | 6, hR => cases hR; exact fun v _ _ h hx => by obtain ⟨b, e, hz, hb⟩ := h; exact ⟨b, e, hz, (Below.block hx _ (Array.getElem?_eq_some_iff.1 hb).1).trans hb⟩
    | 7, hR => cases hR; exact fun v _ _ h hx => by obtain ⟨b, e, hz, hb⟩ := h; exact ⟨b, e, hz, (Below.block hx _ (Array.getElem?_eq_some_iff.1 hb).1).trans hb⟩
  refine wM_val ?ut0 rfl rfl Ext.refl (fun w' hD => ?ht0) (fun pht0 => ?nt0)
  case ht0 =>
    obtain ⟨c0, c1, c2⟩ := FH.out w' hD.1
    go_simp; rfl
  simp only [Act.put, List.setIfInBounds_toArray, List.set_cons_succ, List.set_cons_zero, Nat.reduceAdd]
  refine wM_op _ rfl rfl (opens_call ?ft1 ?gt1 (fun w' hD => ?ht1) (fun w' hD => ?ct1)) (fun v1 hv1 => ?nt1)
  case ht1 => go_simp; constructor <;> rfl
  case ct1 =>
    have K := lown_any _ h w' (HR.out w' hD.1) (by rw [HN.out]; omega)
    unfold hval at K
    rw [HN.out] at K
    refine K.mono ?_
    rintro e w2 ⟨g, k, rfl, ho, hb⟩
    exact ⟨_, rfl, hb, g, k, rfl, own_base ho hD.1.size⟩
  obtain ⟨_, -, -, g5, k5, rfl, -⟩ := hv1
  simp only [Act.put, List.setIfInBounds_toArray, List.set_cons_succ, List.set_cons_zero, Nat.reduceAdd]
  refine wM_val ?ut2 rfl rfl Ext.refl (fun w' hD => ?ht2) (fun pht2 => ?nt2)
  case ht2 =>
    obtain ⟨c0, c1, c2⟩ := FH.out w' hD.1
    go_simp; rfl
  simp only [Act.put, List.setIfInBounds_toArray, List.set_cons_succ, List.set_cons_zero, Nat.reduceAdd]
  refine wM_op _ rfl rfl (opens_call ?ft3 ?gt3 (fun w' hD => ?ht3) (fun w' hD => ?ct3)) (fun v3 hv3 => ?nt3)
  case ht3 => go_simp; constructor <;> rfl
  case ct3 =>
    have K := ldup_rt Ar cr l w' (HA.out w' hD.1) (by rw [HM.out]; omega)
    rw [HM.out] at K
    refine K.mono ?_
    rintro e w2 ⟨g, k, rfl, ho, hb⟩
    exact ⟨_, rfl, hb, g, k, rfl, own_base ho hD.1.size⟩
  obtain ⟨_, -, -, g6, k6, rfl, -⟩ := hv3
  simp only [Act.put, List.setIfInBounds_toArray, List.set_cons_succ, List.set_cons_zero, Nat.reduceAdd]
  refine wM_val ?ut4 rfl rfl Ext.refl (fun w' hD => ?ht4) (fun pht4 => ?nt4)
  case ht4 =>
    obtain ⟨c0, c1, c2⟩ := FH.out w' hD.1
    go_simp; rfl
  simp only [Act.put, List.setIfInBounds_toArray, List.set_cons_succ, List.set_cons_zero, Nat.reduceAdd]
  refine wM_op _ rfl rfl (opens_call ?ft5 ?gt5 (fun w' hD => ?ht5) (fun w' hD => ?ct5)) (fun v5 hv5 => ?nt5)
  case ht5 => go_simp; constructor <;> rfl
  case ct5 =>
    have K := theirs_any _ h w' (HR.out w' hD.1) (by rw [HN.out]; omega)
    unfold hval at K
    rw [HN.out] at K
    refine K.mono ?_
    rintro e w2 ⟨A2, k, rfl, ho, hb⟩
    exact ⟨_, rfl, hb, A2, k, rfl, own_base ho hD.1.size⟩
  obtain ⟨_, -, -, A7, k7, rfl, -⟩ := hv5
  simp only [Act.put, List.setIfInBounds_toArray, List.set_cons_succ, List.set_cons_zero, Nat.reduceAdd]
  refine wM_op _ rfl rfl (opens_val (fun w' hD => ?hbt6)) (fun v6 hv6 => ?nbt6)
  case hbt6 =>
    refine ⟨.pointer (some ⟨w'.heap.size, 0, none⟩), w'.alloc (.cells #[.int .i64 0, .int .i64 0, .slice none 0 0] 25), ?_, Ext.alloc (Ext.refl _) _, _, rfl, hD.1.size, heap_alloc_new _ _⟩
    go_simp
  obtain ⟨_, -, -, b6, rfl, hzb6, -⟩ := hv6
  simp only [Act.put, List.setIfInBounds_toArray, List.set_cons_succ, List.set_cons_zero, Nat.reduceAdd]
  refine wM_op _ rfl rfl (opens_val (fun w' hD => ?hbt7)) (fun v7 hv7 => ?nbt7)
  case hbt7 =>
    refine ⟨.pointer (some ⟨w'.heap.size, 0, none⟩), w'.alloc (.cells #[.int .i64 0, .int .i64 0, .slice none 0 0] 75), ?_, Ext.alloc (Ext.refl _) _, _, rfl, hD.1.size, heap_alloc_new _ _⟩
    go_simp
  obtain ⟨_, -, -, b7, rfl, hzb7, -⟩ := hv7
  simp only [Act.put, List.setIfInBounds_toArray, List.set_cons_succ, List.set_cons_zero, Nat.reduceAdd]
  refine wM_nil ?_
  intro w9 hw9 hF9
  obtain ⟨-, g5', k5', e5, ho5⟩ := hF9 1
  cases e5
  obtain ⟨-, g6', k6', e6, ho6⟩ := hF9 3
  cases e6
  obtain ⟨-, A7', k7', e7, ho7⟩ := hF9 5
  cases e7
  obtain ⟨-, b6', e6, hz6, hb6⟩ := hF9 6
  cases e6
  obtain ⟨-, b7', e7, hz7, hb7⟩ := hF9 7
  cases e7
  clear hF9
  simp only [List.drop_succ_cons, List.drop_zero]
  have hne67 : ¬ b7 = b6 := fun e => by
    rw [e, hb6] at hb7
    injection hb7 with q
    injection q with _ q2 _
    exact absurd q2 (by decide)
  obtain ⟨u0, u1, u2, fu⟩ := house_cells hb6
  obtain ⟨y0, y1, y2, fy⟩ := house_cells hb7
  obtain ⟨V1, hV1, q1, q2⟩ := put_house2 (v0 := .int .i64 h.mo) (v1 := .int .i64 h.pk) (v2 := .slice (some ⟨g5, 0, none⟩) N k5) hb6
  have hb71 := q2.heap hb7 hne67
  obtain ⟨V2, hV2, q3, q4⟩ := put_house2 (v0 := .int .i64 h.mo) (v1 := .int .i64 h.pk) (v2 := .slice A7 N k7) hb71
  obtain ⟨y3, y4, y5, fy2⟩ := house_cells hb71
  have q5 := q4.heap q1 (fun e => hne67 e.symm)
  have hE2 : Ext W0 V2 := (((Ext.belS (S := fun j => W0.heap.size ≤ j) hw9).trans (q2.mono fun k _ hk => by subst hk; exact hz6)).trans (q4.mono fun k _ hk => by subst hk; exact hz7)).ext (fun k hk hS => by omega)
  have o5 := q4.own (q2.own ho5 (fun j hj e => own_neC ho5 hb6 (by decide) (by rw [hj, e]))) (fun j hj e => own_neC ho5 hb7 (by decide) (by rw [hj, e]))
  have o6 := q4.own (q2.own ho6 (fun j hj e => own_neC ho6 hb6 (by decide) (by rw [hj, e]))) (fun j hj e => own_neC ho6 hb7 (by decide) (by rw [hj, e]))
  have o7 := q4.own (q2.own ho7 (fun j hj e => own_neC ho7 hb6 (by decide) (by rw [hj, e]))) (fun j hj e => own_neC ho7 hb7 (by decide) (by rw [hj, e]))
  have F5 : Hid (∀ w', Ext V2 w' → (w'.cell? ⟨b6, 0, none⟩ = some (.int .i64 h.mo) ∧ w'.cell? ⟨b6, 1, none⟩ = some (.int .i64 h.pk) ∧ w'.cell? ⟨b6, 2, none⟩ = some (.slice (some ⟨g5, 0, none⟩) N k5)) ∧ w'.cell? ⟨b7, 0, none⟩ = some (.int .i64 h.mo) ∧ w'.cell? ⟨b7, 1, none⟩ = some (.int .i64 h.pk) ∧ w'.cell? ⟨b7, 2, none⟩ = some (.slice A7 N k7)) := fun w' hx => by
    obtain ⟨a0, a1, a2, -⟩ := house_cells q5
    obtain ⟨d0, d1, d2, -⟩ := house_cells q3
    exact ⟨⟨hx.cell a0, hx.cell a1, hx.cell a2⟩, hx.cell d0, hx.cell d1, hx.cell d2⟩
  have HO : Hid (∀ w', Ext V2 w' → HsR w' (.agg #[.int .i64 h.mo, .int .i64 h.pk, .slice (some ⟨g5, 0, none⟩) N k5]) h) := fun w' hx => ⟨_, k5, by unfold hval; rw [HN.out], Rd.of_own (own_below o5 hx), by rw [HN.out]; exact own_cap2 o5⟩
  have HX : Hid (∀ w', Ext V2 w' → HsR w' (.agg #[.int .i64 h.mo, .int .i64 h.pk, .slice A7 N k7]) h) := fun w' hx => ⟨_, k7, by unfold hval; rw [HN.out], Rd.of_own (own_below o7 hx), by rw [HN.out]; exact own_cap2 o7⟩
  have HV1 := hid hV1
  have HV2 := hid hV2
  have hxV := hx0.trans hE2
  have HMI : Hid (∀ w', Ext V2 w' → Prs w' (some ⟨g6, 0, none⟩) l) := fun w' hx => Rd.of_own (own_below o6 hx)
  clear o6 hV1 hV2 q1 q2 q3 q4 q5 hb6 hb7 hb71 ho5 ho6 ho7 o5 o7 hz6 hz7
  have hne76 : ¬ b6 = b7 := fun e => hne67 e.symm
  have KRA := hid (refratios_any _ h V2 (HX.out V2 (Ext.refl _)) HS.out Ar cr l (HA.out V2 hE2) (by rw [HM.out]; omega))
  rw [HM.out] at KRA
  obtain ⟨R, hR⟩ : ∃ R, ratE h l = R := ⟨_, rfl⟩
  rw [hR] at KRA
  have HRR := hid hR
  go_upto_region 4 with fail
  rw [HV1.out, HV2.out]
  clear HV1 HV2 hne67 hne76 u0 u1 u2 fu y0 y1 y2 fy y3 y4 y5 fy2 hR
  obtain ⟨⟨a0, a1, a2⟩, d0, d1, d2⟩ := F5.out V2 (Ext.refl _)
  go_wp2_with fail
  refine KRA.out.mono ?_
  rintro e V3 ⟨rfl, hx3⟩
  clear KRA a0 a1 a2 d0 d1 d2
  obtain ⟨T, hT⟩ : ∃ T, ttV h l = T := ⟨_, rfl⟩
  have HTT := hid hT
  clear hT
  go_upto_region 5 with fail
  go_cut [9] (fun s9 wx => s9 = .bool T ∧ Ext V3 wx)
  case first =>
    by_cases h0 : R = 0
    · subst h0
      obtain ⟨hk, hlm, hrr⟩ := ratE_ok HRR.out
      have hRT : RtsOK h l := { len := hlm, pos := fun q hq => (hrr q hq).1 }
      have KT := reftruth_any _ h V3 (HX.out V3 hx3) hk.mo Ar cr l (HA.out V3 (hE2.trans hx3)) hlm (fun q hq => (hrr q hq).2)
      rw [truthR_is hRT, HM.out] at KT
      have e : truthH h l = T := by rw [← HTT.out]; unfold ttV; rw [if_pos HRR.out]
      rw [e] at KT
      have KT := hid KT
      clear hk hlm hrr hRT e
      obtain ⟨⟨a0, a1, a2⟩, d0, d1, d2⟩ := F5.out V3 hx3
      go_wp2_with fail
      refine KT.out.mono ?_
      rintro e V4 ⟨rfl, hx4⟩
      go_wp2_with fail
      go_meet
      exact ⟨rfl, hx4⟩
    · have h0b : (R == 0) = false := by simp [h0]
      have e : T = false := by rw [← HTT.out]; unfold ttV; rw [HRR.out, if_neg h0]
      subst e
      go_wp2_with fail
      go_meet
      exact ⟨rfl, Ext.refl _⟩
  case rest =>
    obtain ⟨rfl, hcx⟩ := hcut
    have hx3c := hid (hx3.trans hcx)
    clear hcx
    obtain ⟨E, hE⟩ : ∃ E, falE h l = E := ⟨_, rfl⟩
    have HE := hid hE
    obtain ⟨wd, hwd⟩ : ∃ x : World, x = wc := ⟨_, rfl⟩
    subst hwd
    clear hE
    go_upto_if 44 with fail
    go_cut [10] (fun s10 wx => s10 = .int .i64 E ∧ wd = wx)
    case first =>
      by_cases h0 : R = 0
      · subst h0
        obtain hTc | hTc : T = true ∨ T = false := by cases T <;> simp
        · subst hTc
          have e : E = 0 := by
            have q := HTT.out
            unfold ttV at q
            rw [if_pos HRR.out] at q
            rw [← HE.out]; unfold falE; rw [if_neg (by simp [HRR.out]), q]; rfl
          subst e
          go_wp2_with fail
          go_meet
          exact ⟨rfl, rfl⟩
        · subst hTc
          have e : E = 8 := by
            have q := HTT.out
            unfold ttV at q
            rw [if_pos HRR.out] at q
            rw [← HE.out]; unfold falE; rw [if_neg (by simp [HRR.out]), q]; rfl
          subst e
          go_wp2_with fail
          go_meet
          exact ⟨rfl, rfl⟩
      · have h0b : (R == 0) = false := by simp [h0]
        have e : R = E := by rw [← HE.out]; unfold falE; rw [HRR.out, if_pos h0]
        subst e
        go_wp2_with fail
        go_meet
        exact ⟨rfl, rfl⟩
    case rest =>
      obtain ⟨rfl, hwe⟩ := hcut
      subst hwe
      have hwx := hx3c.out
      have HXd : Hid (∀ w', Ext wd w' → Wgs w' A7 h.ws) := fun w' hw => by
        obtain ⟨A8, c8, e8, h8, -⟩ := HX.out w' (hwx.trans hw)
        unfold hval at e8
        injection e8 with e9
        simp only [Array.mk.injEq, List.cons.injEq, Value.slice.injEq] at e9
        rw [e9.2.2.1.1]; exact h8
      obtain ⟨⟨a0, a1, a2⟩, d0, d1, d2⟩ := F5.out wd hwx
      go_wp2
      clear a0 a1 a2 d0 d1 d2
      obtain ⟨KV, hKV⟩ : ∃ KV : Nat → List Int, (fun k => if E = 0 then falK h l k else []) = KV := ⟨_, rfl⟩
      have HKA : Hid (E = 0 → ∀ k, KV k = falK h l k) := fun e k => by rw [← hKV]; exact if_pos e
      have HKB : Hid (E ≠ 0 → ∀ k, KV k = []) := fun e k => by rw [← hKV]; exact if_neg e
      have HKE : Hid (KV N = falV h l) := by unfold Hid; rw [← hKV]; show (if E = 0 then falK h l N else []) = falV h l; unfold falV; rw [HE.out, HN.out]; rfl
      have HK0 : Hid (KV 0 = []) := by unfold Hid; rw [← hKV]; show (if E = 0 then falK h l 0 else []) = []; split <;> rfl
      clear hKV
      go_loopw [11, 49] (fun s11 i wr => ∃ (k n : Nat) (A' : Option Addr) (c' : Nat), i = .int .i64 (k : Int) ∧ k ≤ N ∧ Hid ((KV k).length = n) ∧ n ≤ k ∧ s11 = .slice A' n c' ∧ wr.ownsRow wd.heap.size 3 1 (.slice A' n c') n ((KV k).map (.int .i64)) ∧ Ext wd wr) (fun _ i _ => N - (intOf i).toNat)
      case atStart =>
        refine ⟨0, 0, none, 0, rfl, Nat.zero_le _, by unfold Hid; rw [HK0.out]; rfl, Nat.le_refl _, rfl, ?_, Ext.refl _⟩
        rw [HK0.out]
        exact own_nil _ _ _ _
      case round =>
        obtain ⟨k, n, A', c', rfl, hk, HKL, hnk, rfl, ho, hx⟩ := hrel
        by_cases hlt : k < N
        · have hlt' : (k : Int) < (N : Int) := by omega
          obtain ⟨x, hxk⟩ := get_of_lt h.ws k (by rw [HN.out]; exact hlt)
          obtain ⟨b, off, e1, g0, g1, g2, g3, g4⟩ := Wgs.at_ (HXd.out wr hx) hxk
          obtain ⟨W6, hW6⟩ : ∃ W6, wr.alloc (.cells #[.int .i64 x.mo, .int .i64 x.sl, .int .i64 x.sh, .int .i64 x.ml, .int .i64 x.mh] 92) = W6 := ⟨_, rfl⟩
          have hx6 : Ext wr W6 := by rw [← hW6]; exact (Ext.refl _).alloc _
          have bx : W6.heap[wr.heap.size]? = some (.cells #[.int .i64 x.mo, .int .i64 x.sl, .int .i64 x.sh, .int .i64 x.ml, .int .i64 x.mh] 92 (0, 0)) := by rw [← hW6]; exact heap_alloc_new wr _
          subst e1
          obtain ⟨BX, hBX⟩ : ∃ b, wr.heap.size = b := ⟨_, rfl⟩
          have HBX := hid hBX
          rw [hBX] at bx
          clear hBX
          have hwat : wgAt h k = x := by unfold wgAt; rw [List.getD_eq_getElem?_getD, hxk]; rfl
          go_upto_region 15 with fail
          try rw [hW6]
          try rw [HBX.out]
          clear hW6 g0 g1 g2 g3 g4 HBX
          by_cases hE0 : E = 0
          · subst hE0
            have hra : ratE h l = 0 := by
              have q := HE.out
              unfold falE at q
              by_cases h0 : ratE h l = 0
              · exact h0
              · rw [if_pos h0] at q; exact q
            obtain ⟨hk0, hlm, hrr⟩ := ratE_ok hra
            have hxm := hk0.wm x (List.mem_of_getElem? hxk)
            obtain ⟨mo, hmo⟩ : ∃ q : Nat, x.mo = q := ⟨x.mo.toNat, by omega⟩
            have hmoM : mo < M := by rw [← HM.out]; omega
            obtain ⟨r, hr⟩ := get_of_lt l mo (by rw [HM.out]; exact hmoM)
            obtain ⟨b2, o2, e2, r0, r1⟩ := prs_get (HA.out W6 (hE2.trans (hwx.trans (hx.trans hx6)))) hr
            subst e2
            have hmo' : x.mo < (M : Int) := by omega
            have hmo0 : 0 ≤ x.mo := by omega
            have hmx := wgM_of hk0 (List.mem_of_getElem? hxk)
            have KH := hid fun w' => holds_any x r w' hmx (hrr r (List.mem_of_getElem? hr)).2
            have hfal : falB h l k = !holdW x r := by unfold falB; rw [hwat]; unfold rtAt; rw [hmo, Int.toNat_natCast, List.getD_eq_getElem?_getD, hr]; rfl
            obtain ⟨H1, hH1⟩ : ∃ b, holdW x r = b := ⟨_, rfl⟩
            rw [hH1] at KH hfal
            unfold Wg.val rval at KH
            rw [hmo] at KH
            have hmoM' : (mo : Int) < (M : Int) := by omega
            have HFB := hid hfal
            have FX : Hid (∀ w', Ext W6 w' → (w'.cell? ⟨BX, 0, none⟩ = some (.int .i64 (mo : Int)) ∧ w'.cell? ⟨BX, 1, none⟩ = some (.int .i64 x.sl) ∧ w'.cell? ⟨BX, 2, none⟩ = some (.int .i64 x.sh) ∧ w'.cell? ⟨BX, 3, none⟩ = some (.int .i64 x.ml) ∧ w'.cell? ⟨BX, 4, none⟩ = some (.int .i64 x.mh)) ∧ w'.cell? ⟨b2, o2 + mo * 2, none⟩ = some (.int .i64 r.1) ∧ w'.cell? ⟨b2, o2 + mo * 2 + 1, none⟩ = some (.int .i64 r.2)) := fun w' hw => by
              have hc := fun i u hu => hw.cell (blk_cells (xs := [.int .i64 x.mo, .int .i64 x.sl, .int .i64 x.sh, .int .i64 x.ml, .int .i64 x.mh]) bx i u hu)
              exact ⟨⟨by rw [← hmo]; exact hc 0 _ rfl, hc 1 _ rfl, hc 2 _ rfl, hc 3 _ rfl, hc 4 _ rfl⟩, hw.cell r0, hw.cell r1⟩
            have ho6 := own_below ho hx6
            have hxr6 := hx.trans hx6
            clear hxk hwat hH1 hfal hr r0 r1 hra hk0 hlm hrr hxm hmx bx ho hx hx6 hmo hmo' hmo0
            refine wp_region_shut Ext (fun w' => Ext W6 w') (fun
              | 9 => some (fun v _ => v = .bool H1)
              | _ => none) (by kernel_rfl) (by kernel_rfl) (fun _ _ h k => h.trans k) ?hTh (Ext.drew (Ext.refl W6)) ?_
            case hTh =>
              intro i R hR
              match i, hR with
              | 9, hR => cases hR; exact fun _ _ _ h _ => h
            refine wM_val ?uh0 rfl rfl Ext.refl (fun w' hD => ?hh0) (fun phh0 => ?nh0)
            case hh0 =>
              obtain ⟨⟨p0, p1, p2, p3, p4⟩, p5, p6⟩ := FX.out w' hD.1
              go_simp; rfl
            simp only [Act.put, List.setIfInBounds_toArray, List.set_cons_succ, List.set_cons_zero, Nat.reduceAdd]
            refine wM_val ?uh1 rfl rfl Ext.refl (fun w' hD => ?hh1) (fun phh1 => ?nh1)
            case hh1 =>
              obtain ⟨⟨p0, p1, p2, p3, p4⟩, p5, p6⟩ := FX.out w' hD.1
              go_simp; rfl
            simp only [Act.put, List.setIfInBounds_toArray, List.set_cons_succ, List.set_cons_zero, Nat.reduceAdd]
            refine wM_val ?uh2 rfl rfl Ext.refl (fun w' hD => ?hh2) (fun phh2 => ?nh2)
            case hh2 =>
              obtain ⟨⟨p0, p1, p2, p3, p4⟩, p5, p6⟩ := FX.out w' hD.1
              go_simp; rfl
            simp only [Act.put, List.setIfInBounds_toArray, List.set_cons_succ, List.set_cons_zero, Nat.reduceAdd]
            refine wM_val ?uh3 rfl rfl Ext.refl (fun w' hD => ?hh3) (fun phh3 => ?nh3)
            case hh3 =>
              obtain ⟨⟨p0, p1, p2, p3, p4⟩, p5, p6⟩ := FX.out w' hD.1
              go_simp; rfl
            simp only [Act.put, List.setIfInBounds_toArray, List.set_cons_succ, List.set_cons_zero, Nat.reduceAdd]
            refine wM_val ?uh4 rfl rfl Ext.refl (fun w' hD => ?hh4) (fun phh4 => ?nh4)
            case hh4 =>
              obtain ⟨⟨p0, p1, p2, p3, p4⟩, p5, p6⟩ := FX.out w' hD.1
              go_simp; rfl
            simp only [Act.put, List.setIfInBounds_toArray, List.set_cons_succ, List.set_cons_zero, Nat.reduceAdd]
            refine wM_val ?uh5 rfl rfl Ext.refl (fun w' hD => ?hh5) (fun phh5 => ?nh5)
            case hh5 =>
              obtain ⟨⟨p0, p1, p2, p3, p4⟩, p5, p6⟩ := FX.out w' hD.1
              go_simp; rfl
            simp only [Act.put, List.setIfInBounds_toArray, List.set_cons_succ, List.set_cons_zero, Nat.reduceAdd]
            refine wM_val ?uh6 rfl rfl Ext.refl (fun w' hD => ?hh6) (fun phh6 => ?nh6)
            case hh6 =>
              obtain ⟨⟨p0, p1, p2, p3, p4⟩, p5, p6⟩ := FX.out w' hD.1
              go_simp; rfl
            simp only [Act.put, List.setIfInBounds_toArray, List.set_cons_succ, List.set_cons_zero, Nat.reduceAdd]
            refine wM_val ?uh7 rfl rfl Ext.refl (fun w' hD => ?hh7) (fun phh7 => ?nh7)
            case hh7 =>
              obtain ⟨⟨p0, p1, p2, p3, p4⟩, p5, p6⟩ := FX.out w' hD.1
              go_simp; rfl
            simp only [Act.put, List.setIfInBounds_toArray, List.set_cons_succ, List.set_cons_zero, Nat.reduceAdd]
            refine wM_val ?uh8 rfl rfl Ext.refl (fun w' hD => ?hh8) (fun phh8 => ?nh8)
            case hh8 =>
              obtain ⟨⟨p0, p1, p2, p3, p4⟩, p5, p6⟩ := FX.out w' hD.1
              go_simp; rfl
            simp only [Act.put, List.setIfInBounds_toArray, List.set_cons_succ, List.set_cons_zero, Nat.reduceAdd]
            refine wM_op _ rfl rfl (opens_call ?fh9 ?gh9 (fun w' hD => ?hh9) (fun w' hD => ?ch9)) (fun v9 hv9 => ?nh9)
            case hh9 => go_simp; constructor <;> rfl
            case ch9 =>
              refine (KH.out w').mono ?_
              rintro e w2 ⟨rfl, hb⟩
              exact ⟨_, rfl, hb, rfl⟩
            obtain ⟨_, -, -, rfl⟩ := hv9
            simp only [Act.put, List.setIfInBounds_toArray, List.set_cons_succ, List.set_cons_zero, Nat.reduceAdd]
            refine wM_val ?uh10 rfl rfl Ext.refl (fun w' hD => ?hh10) (fun phh10 => ?nh10)
            case hh10 =>
              obtain ⟨⟨p0, p1, p2, p3, p4⟩, p5, p6⟩ := FX.out w' hD.1
              go_simp; rfl
            simp only [Act.put, List.setIfInBounds_toArray, List.set_cons_succ, List.set_cons_zero, Nat.reduceAdd]
            refine wM_val ?uh11 rfl rfl Ext.refl (fun w' hD => ?hh11) (fun phh11 => ?nh11)
            case hh11 =>
              obtain ⟨⟨p0, p1, p2, p3, p4⟩, p5, p6⟩ := FX.out w' hD.1
              go_simp; rfl
            simp only [Act.put, List.setIfInBounds_toArray, List.set_cons_succ, List.set_cons_zero, Nat.reduceAdd]
            refine wM_nil ?_
            intro w9 hw9 hF9
            clear hF9
            have hx9 := hxr6.trans hw9
            have ho9 := own_below ho6 hw9
            clear FX KH ho6
            have hka := HKA.out rfl
            have HK2 : Hid ((falK h l k).length = n) := by have q := HKL.out; rw [hka] at q; exact q
            rw [hka] at ho9
            have HKN := hid (hka (k + 1))
            clear hka
            cases H1 with
            | true =>
              have HNX : Hid (falK h l (k + 1) = falK h l k) := by unfold Hid; rw [falK_next, HFB.out]; simp
              clear HFB HKL
              go_wp2
              go_roundw
              case rel => exact ⟨k + 1, n, A', c', by go_num, by omega, by unfold Hid; rw [HKN.out, HNX.out, HK2.out], by omega, rfl, by rw [HKN.out, HNX.out]; exact ho9, hx9⟩
              case measure => simp [intOf]; omega
            | false =>
              have HNX : Hid (falK h l (k + 1) = falK h l k ++ [(k : Int)]) := by unfold Hid; rw [falK_next, HFB.out]; simp
              have hwz := hx9.size
              clear HFB HKL
              go_wp2_with (at_builtin; refine wpList_append_rd2 _ rfl _ _ 64 rfl elem_int wd.heap.size _ n ((falK h l k).map (.int .i64)) rfl (own_below ho9 (Ext.alloc (Ext.refl _) _)) (some ⟨w9.heap.size, 0, none⟩) 1 1 [.int .i64 (k : Int)] rfl rfl (rd_blk2 (heap_alloc_new w9 _)) (by intro u hu; simp at hu; subst hu; rfl) (by omega) (by simp; omega) ?_)
              intro A5 c5 w5 own5 bel5 gr5 at5
              have gr5' : (w9.alloc (.cells #[.int .i64 (k : Int)] 3)).grownBy w5 (Value.slice A' n c').ownBlock := gr5
              have hxN : Ext wd w5 := Ext.grown (hx9.alloc (.cells #[.int .i64 (k : Int)] 3)) gr5' (fun j e => by have := (ho9.lt j e).1; omega)
              rw [show (falK h l k).map (Value.int .i64) ++ [.int .i64 (k : Int)] = (falK h l (k + 1)).map (.int .i64) from by rw [HNX.out]; simp] at own5
              have HO5 := hid own5
              clear own5 bel5 gr5 gr5' at5
              go_wp2
              go_roundw
              case rel => exact ⟨k + 1, n + 1, A5, c5, by go_num, by omega, by unfold Hid; rw [HKN.out, HNX.out, List.length_append, HK2.out]; rfl, by omega, rfl, by rw [HKN.out]; exact HO5.out, hxN⟩
              case measure => simp [intOf]; omega
          · have hEb : (E == 0) = false := by simp [hE0]
            have ho6 := own_below ho hx6
            have hxr6 := hx.trans hx6
            clear hxk hwat bx
            refine wp_region_shut Ext (fun w' => Ext W6 w') (fun
              | _ => none) (by kernel_rfl) (by kernel_rfl) (fun _ _ h k => h.trans k) ?hTn (Ext.drew (Ext.refl W6)) ?_
            case hTn =>
              intro i R hR
              cases hR
            refine wM_val ?un0 rfl rfl Ext.refl (fun w' hD => ?hn0) (fun phn0 => ?nn0)
            case hn0 =>
              go_simp; rfl
            simp only [Act.put, List.setIfInBounds_toArray, List.set_cons_succ, List.set_cons_zero, Nat.reduceAdd]
            refine wM_val ?un1 rfl rfl Ext.refl (fun w' hD => ?hn1) (fun phn1 => ?nn1)
            case hn1 =>
              go_simp; rfl
            simp only [Act.put, List.setIfInBounds_toArray, List.set_cons_succ, List.set_cons_zero, Nat.reduceAdd]
            refine wM_val ?un2 rfl rfl Ext.refl (fun w' hD => ?hn2) (fun phn2 => ?nn2)
            case hn2 =>
              go_simp; rfl
            simp only [Act.put, List.setIfInBounds_toArray, List.set_cons_succ, List.set_cons_zero, Nat.reduceAdd]
            refine wM_skip rfl ?_
            simp only [Act.put, List.setIfInBounds_toArray, List.set_cons_succ, List.set_cons_zero, Nat.reduceAdd]
            refine wM_skip rfl ?_
            simp only [Act.put, List.setIfInBounds_toArray, List.set_cons_succ, List.set_cons_zero, Nat.reduceAdd]
            refine wM_skip rfl ?_
            simp only [Act.put, List.setIfInBounds_toArray, List.set_cons_succ, List.set_cons_zero, Nat.reduceAdd]
            refine wM_skip rfl ?_
            simp only [Act.put, List.setIfInBounds_toArray, List.set_cons_succ, List.set_cons_zero, Nat.reduceAdd]
            refine wM_skip rfl ?_
            simp only [Act.put, List.setIfInBounds_toArray, List.set_cons_succ, List.set_cons_zero, Nat.reduceAdd]
            refine wM_skip rfl ?_
            simp only [Act.put, List.setIfInBounds_toArray, List.set_cons_succ, List.set_cons_zero, Nat.reduceAdd]
            refine wM_skip rfl ?_
            simp only [Act.put, List.setIfInBounds_toArray, List.set_cons_succ, List.set_cons_zero, Nat.reduceAdd]
            refine wM_skip rfl ?_
            simp only [Act.put, List.setIfInBounds_toArray, List.set_cons_succ, List.set_cons_zero, Nat.reduceAdd]
            refine wM_val ?un11 rfl rfl Ext.refl (fun w' hD => ?hn11) (fun phn11 => ?nn11)
            case hn11 =>
              go_simp; rfl
            simp only [Act.put, List.setIfInBounds_toArray, List.set_cons_succ, List.set_cons_zero, Nat.reduceAdd]
            refine wM_nil ?_
            intro w9 hw9 hF9
            clear hF9
            have hx9 := hxr6.trans hw9
            have ho9 := own_below ho6 hw9
            have hkb := HKB.out hE0
            rw [hkb] at ho9
            have HK2 := HKL.out
            rw [hkb] at HK2
            have HK2 := hid HK2
            have HKN := hid (hkb (k + 1))
            clear hkb
            clear ho ho6 HKL
            go_wp2
            go_roundw
            case rel => exact ⟨k + 1, n, A', c', by go_num, by omega, by unfold Hid; rw [HKN.out]; exact HK2.out, by omega, rfl, by rw [HKN.out]; exact ho9, hx9⟩
            case measure => simp [intOf]; omega
        · have hlt' : ¬ (k : Int) < (N : Int) := by omega
          obtain rfl : k = N := by omega
          have hV : KV k = falV h l := HKE.out
          rw [hV] at ho HKL
          have HVL := hid HKL.out
          have hwr := hwx.trans hx
          have HI := hid (Rd.of_own ho)
          clear hV ho HKL
          obtain ⟨⟨a0, a1, a2⟩, d0, d1, d2⟩ := F5.out wr hwr
          have KT := truthx_any _ h wr (HO.out wr hwr) HS.out (some ⟨g6, 0, none⟩) k6 l (HMI.out wr hwr) (by rw [HM.out]; omega)
          rw [HTT.out, HM.out, show ttE h l = R from HRR.out] at KT
          have KT := hid KT
          go_wp2_with fail
          refine KT.out.mono ?_
          rintro e V5 ⟨rfl, hx5⟩
          clear KT a0 a1 a2 d0 d1 d2
          have h5 := hwr.trans hx5
          have KF := false_any _ h V5 (HO.out V5 h5) HS.out (some ⟨g6, 0, none⟩) k6 l (HMI.out V5 h5) (by rw [HM.out]; omega)
          rw [HE.out, HM.out, HVL.out] at KF
          have KF := hid KF
          obtain ⟨⟨a0, a1, a2⟩, d0, d1, d2⟩ := F5.out V5 h5
          go_wp2_with fail
          refine KF.out.mono ?_
          rintro e V6 ⟨A9, c9, rfl, hx6, hI9⟩
          clear KF a0 a1 a2 d0 d1 d2
          have h6 := h5.trans hx6
          have KI := eq_int A9 A' c9 c' (falV h l) (falV h l) V6 hI9 (Rd.ext HI.out (hx5.trans hx6)) (by rw [HVL.out]; omega) (by rw [HVL.out]; omega)
          rw [HVL.out, beq_self_eq_true] at KI
          have KI := hid KI
          go_wp2_with fail
          refine KI.out.mono ?_
          rintro e V7 ⟨rfl, hx7⟩
          clear KI
          have h7 := h6.trans hx7
          obtain ⟨⟨a0, a1, a2⟩, d0, d1, d2⟩ := F5.out V7 h7
          obtain ⟨c0, c1, c2⟩ := FH.out V7 (hE2.trans h7)
          have KS := hid (same_yes _ _ h V7 (HO.out V7 h7) (HR.out V7 (hE2.trans h7)) HS.out)
          go_wp2_with fail
          refine KS.out.mono ?_
          rintro e V8 ⟨rfl, hx8⟩
          clear KS a0 a1 a2 d0 d1 d2 c0 c1 c2
          have h8 := h7.trans hx8
          have KR := eq_rts (some ⟨g6, 0, none⟩) Ar k6 cr l V8 (HMI.out V8 h8) (HA.out V8 (hE2.trans h8)) (by rw [HM.out]; omega)
          rw [HM.out] at KR
          have KR := hid KR
          go_wp2_with fail
          refine KR.out.mono ?_
          rintro e V9 ⟨rfl, hx9⟩
          clear KR
          go_wp2_with fail
          refine (awake_any _).mono ?_
          rintro e wq ⟨rfl, hxq⟩
          go_wp2
          go_ret
          exact ⟨rfl, hxV.trans (h8.trans (hx9.trans hxq))⟩
end Go.Proofs.Ytjnobdcbbboeeaa
