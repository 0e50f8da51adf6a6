/- The walk of BoilRatios. Printed by my gen_brto.py. -/
import Derived.Test.YtjnobdcbbboeeaaBRtoP
import Derived.Test.YtjnobdcbbboeeaaHa
import Derived.Deep.DeepCutAuto
import Derived.Deep.CutBlock
import Derived.Deep.QuietTactic
import Derived.BigQuiet
import Derived.OwnWalk
namespace Go.Proofs.Ytjnobdcbbboeeaa
open Go Go.RowKit Go.Shelf
set_option linter.unusedVariables false
set_option linter.unusedSimpArgs false

set_option maxRecDepth 100000 in
set_option maxHeartbeats 16000000 in
theorem boilratios_any (v : Value) (h : Hs) (n a b : Int) (Ar : Option Addr) (cr : Nat) (l : List Int) (w : World) (hr : HsR w v h) (hs : h.sized) (hA : Ints w Ar l) (hl : l.length ≤ 9223372036854775807) :
    Calls Try.prog 10 #[v, .int .i64 n, .int .i64 a, .int .i64 b, .slice Ar l.length cr] w fun e w' => e = .returned (.bool true) ∧ Below w.heap.size w w' := by
  obtain ⟨A, c, rfl, hrw, hcap⟩ := hr
  obtain ⟨N, hN⟩ : ∃ N : Nat, h.ws.length = N := ⟨_, rfl⟩
  have HN := hid hN
  unfold hval
  rw [hN]
  obtain ⟨W0, hW0⟩ : ∃ W0, w.alloc (.cells #[.int .i64 h.mo, .int .i64 h.pk, .slice A N c] 25) = W0 := ⟨_, rfl⟩
  have hx0 : Ext w W0 := by rw [← hW0]; exact Ext.alloc (Ext.refl w) _
  have b0 : W0.heap[w.heap.size]? = some (.cells #[.int .i64 h.mo, .int .i64 h.pk, .slice A N c] 25 (0, 0)) := by rw [← hW0]; exact heap_alloc_new w _
  have FH : Hid (∀ w', Ext W0 w' → w'.cell? ⟨w.heap.size, 0, none⟩ = some (.int .i64 h.mo) ∧ w'.cell? ⟨w.heap.size, 1, none⟩ = some (.int .i64 h.pk) ∧ w'.cell? ⟨w.heap.size, 2, none⟩ = some (.slice A N c)) := fun w' hx => by
    obtain ⟨q0, q1, q2, -⟩ := house_cells b0
    exact ⟨hx.cell q0, hx.cell q1, hx.cell q2⟩
  have HR : Hid (∀ w', Ext W0 w' → HsR w' (.agg #[.int .i64 h.mo, .int .i64 h.pk, .slice A N c]) h) := fun w' hx => ⟨A, c, by unfold hval; rw [hN], Rows.ext hrw (hx0.trans hx), hcap⟩
  have HS := hid hs
  have HW0 := hid hW0
  have hw0lt : w.heap.size < W0.heap.size := (Array.getElem?_eq_some_iff.1 b0).1
  have HAW : Hid (∀ w', Ext W0 w' → Wgs w' A h.ws) := fun w' hx => Rows.ext hrw (hx0.trans hx)
  clear hW0 b0 hrw hcap hN
  have HA : Hid (∀ w', Ext W0 w' → Ints w' Ar l) := fun w' hx => hA.ext (hx0.trans hx)
  obtain ⟨M, hM⟩ : ∃ M : Nat, l.length = M := ⟨_, rfl⟩
  have HM := hid hM
  rw [hM] at hl ⊢
  clear hM hA hs
  have KG := hid (great_any _ h W0 (HR.out W0 (Ext.refl _)))
  rw [HN.out] at KG
  go_enter Try.func10, Try.ntmps10
  go_upto_region 1 with fail
  rw [HW0.out]
  clear HW0
  obtain ⟨c0, c1, c2⟩ := FH.out W0 (Ext.refl _)
  go_wp2_with fail
  refine KG.out.mono ?_
  rintro e w1 ⟨rfl, hx1⟩
  clear KG c0 c1 c2
  by_cases hg : 20 < N
  · have hgd : decide (20 < N) = true := decide_eq_true hg
    rw [hgd]
    clear hgd
    go_wp2_with fail
    refine (awake_any _).mono ?_
    rintro e wq ⟨rfl, hxq⟩
    go_wp2
    go_ret
    exact ⟨rfl, hx0.trans (hx1.trans hxq)⟩
  have hgd : decide (20 < N) = false := decide_eq_false hg
  rw [hgd]
  clear hgd
  by_cases hg2 : 20 < M
  · have hg2' : (M : Int) > 20 := by omega
    go_wp2_with fail
    refine (awake_any _).mono ?_
    rintro e wq ⟨rfl, hxq⟩
    go_wp2
    go_ret
    exact ⟨rfl, hx0.trans (hx1.trans hxq)⟩
  have hg2' : ¬ (M : Int) > 20 := by omega
  go_upto_region 3 with fail
  have hn20 : N ≤ 20 := by omega
  have hm20 : M ≤ 20 := by omega
  have hx01 := hx1
  clear hg hg2 hg2' hl
  refine wp_region_shut_tail Ext (fun w' => Ext W0 w') (fun
    | 1 => some (fun v w' => ∃ g k, v = .agg #[.int .i64 h.mo, .int .i64 h.pk, .slice (some ⟨g, 0, none⟩) N k] ∧ w'.ownsRow W0.heap.size 55 5 (.slice (some ⟨g, 0, none⟩) N k) N (layWg.rows h.ws))
    | 3 => some (fun v w' => ∃ g k, v = .slice (some ⟨g, 0, none⟩) M k ∧ w'.ownsRow W0.heap.size 3 1 (.slice (some ⟨g, 0, none⟩) M k) M (l.map (Value.int .i64)))
    | 5 => some (fun v w' => ∃ A2 k, v = .agg #[.int .i64 h.mo, .int .i64 h.pk, .slice A2 N k] ∧ w'.ownsRow W0.heap.size 92 5 (.slice A2 N k) N (layWg.rows h.ws))
    | 6 => some (fun v w' => ∃ b, v = .pointer (some ⟨b, 0, none⟩) ∧ W0.heap.size ≤ b ∧ w'.heap[b]? = some (.cells #[.int .i64 0, .int .i64 0, .slice none 0 0] 25 (0, 0)))
    | 7 => some (fun v w' => ∃ b, v = .pointer (some ⟨b, 0, none⟩) ∧ W0.heap.size ≤ b ∧ w'.heap[b]? = some (.cells #[.int .i64 0, .int .i64 0, .slice none 0 0] 75 (0, 0)))
    | _ => none) 8 (by kernel_rfl) (by kernel_rfl) (fun _ _ h k => h.trans k) ?hTt (hx01.trans (Ext.drew (Ext.refl _))) ?_
  case hTt =>
    intro i R hR
    match i, hR with
    | 1, hR => cases hR; exact fun v _ _ h hx => by obtain ⟨g, k, e, ho⟩ := h; exact ⟨g, k, e, own_below ho hx⟩
    | 3, hR => cases hR; exact fun v _ _ h hx => by obtain ⟨g, k, e, ho⟩ := h; exact ⟨g, k, e, own_below ho hx⟩
    | 5, hR => cases hR; exact fun v _ _ h hx => by obtain ⟨g, k, e, ho⟩ := h; exact ⟨g, k, e, own_below ho hx⟩
    | 6, hR => cases hR; exact fun v _ _ h hx => by obtain ⟨b, e, hz, hb⟩ := h; exact ⟨b, e, hz, (Below.block hx _ (Array.getElem?_eq_some_iff.1 hb).1).trans hb⟩
    | 7, hR => cases hR; exact fun v _ _ h hx => by obtain ⟨b, e, hz, hb⟩ := h; exact ⟨b, e, hz, (Below.block hx _ (Array.getElem?_eq_some_iff.1 hb).1).trans hb⟩
  refine wM_val ?ut0 rfl rfl Ext.refl (fun w' hD => ?ht0) (fun pht0 => ?nt0)
  case ht0 =>
    obtain ⟨c0, c1, c2⟩ := FH.out w' hD.1
    go_simp; rfl
  simp only [Act.put, List.setIfInBounds_toArray, List.set_cons_succ, List.set_cons_zero, Nat.reduceAdd]
  refine wM_op _ rfl rfl (opens_call ?ft1 ?gt1 (fun w' hD => ?ht1) (fun w' hD => ?ct1)) (fun v1 hv1 => ?nt1)
  case ht1 => go_simp; constructor <;> rfl
  case ct1 =>
    have K := lown_any _ h w' (HR.out w' hD.1) (by rw [HN.out]; omega)
    unfold hval at K
    rw [HN.out] at K
    refine K.mono ?_
    rintro e w2 ⟨g, k, rfl, ho, hb⟩
    exact ⟨_, rfl, hb, g, k, rfl, own_base ho hD.1.size⟩
  obtain ⟨_, -, -, g5, k5, rfl, -⟩ := hv1
  simp only [Act.put, List.setIfInBounds_toArray, List.set_cons_succ, List.set_cons_zero, Nat.reduceAdd]
  refine wM_val ?ut2 rfl rfl Ext.refl (fun w' hD => ?ht2) (fun pht2 => ?nt2)
  case ht2 =>
    obtain ⟨c0, c1, c2⟩ := FH.out w' hD.1
    go_simp; rfl
  simp only [Act.put, List.setIfInBounds_toArray, List.set_cons_succ, List.set_cons_zero, Nat.reduceAdd]
  refine wM_op _ rfl rfl (opens_call ?ft3 ?gt3 (fun w' hD => ?ht3) (fun w' hD => ?ct3)) (fun v3 hv3 => ?nt3)
  case ht3 => go_simp; constructor <;> rfl
  case ct3 =>
    have K := dup_int Ar cr l w' (HA.out w' hD.1) (by rw [HM.out]; omega)
    rw [HM.out] at K
    refine K.mono ?_
    rintro e w2 ⟨g, k, rfl, ho, hb⟩
    exact ⟨_, rfl, hb, g, k, rfl, own_base ho hD.1.size⟩
  obtain ⟨_, -, -, g6, k6, rfl, -⟩ := hv3
  simp only [Act.put, List.setIfInBounds_toArray, List.set_cons_succ, List.set_cons_zero, Nat.reduceAdd]
  refine wM_val ?ut4 rfl rfl Ext.refl (fun w' hD => ?ht4) (fun pht4 => ?nt4)
  case ht4 =>
    obtain ⟨c0, c1, c2⟩ := FH.out w' hD.1
    go_simp; rfl
  simp only [Act.put, List.setIfInBounds_toArray, List.set_cons_succ, List.set_cons_zero, Nat.reduceAdd]
  refine wM_op _ rfl rfl (opens_call ?ft5 ?gt5 (fun w' hD => ?ht5) (fun w' hD => ?ct5)) (fun v5 hv5 => ?nt5)
  case ht5 => go_simp; constructor <;> rfl
  case ct5 =>
    have K := theirs_any _ h w' (HR.out w' hD.1) (by rw [HN.out]; omega)
    unfold hval at K
    rw [HN.out] at K
    refine K.mono ?_
    rintro e w2 ⟨A2, k, rfl, ho, hb⟩
    exact ⟨_, rfl, hb, A2, k, rfl, own_base ho hD.1.size⟩
  obtain ⟨_, -, -, A7, k7, rfl, -⟩ := hv5
  simp only [Act.put, List.setIfInBounds_toArray, List.set_cons_succ, List.set_cons_zero, Nat.reduceAdd]
  refine wM_op _ rfl rfl (opens_val (fun w' hD => ?hbt6)) (fun v6 hv6 => ?nbt6)
  case hbt6 =>
    refine ⟨.pointer (some ⟨w'.heap.size, 0, none⟩), w'.alloc (.cells #[.int .i64 0, .int .i64 0, .slice none 0 0] 25), ?_, Ext.alloc (Ext.refl _) _, _, rfl, hD.1.size, heap_alloc_new _ _⟩
    go_simp
  obtain ⟨_, -, -, b6, rfl, hzb6, -⟩ := hv6
  simp only [Act.put, List.setIfInBounds_toArray, List.set_cons_succ, List.set_cons_zero, Nat.reduceAdd]
  refine wM_op _ rfl rfl (opens_val (fun w' hD => ?hbt7)) (fun v7 hv7 => ?nbt7)
  case hbt7 =>
    refine ⟨.pointer (some ⟨w'.heap.size, 0, none⟩), w'.alloc (.cells #[.int .i64 0, .int .i64 0, .slice none 0 0] 75), ?_, Ext.alloc (Ext.refl _) _, _, rfl, hD.1.size, heap_alloc_new _ _⟩
    go_simp
  obtain ⟨_, -, -, b7, rfl, hzb7, -⟩ := hv7
  simp only [Act.put, List.setIfInBounds_toArray, List.set_cons_succ, List.set_cons_zero, Nat.reduceAdd]
  refine wM_nil ?_
  intro w9 hw9 hF9
  obtain ⟨-, g5', k5', e5, ho5⟩ := hF9 1
  cases e5
  obtain ⟨-, g6', k6', e6, ho6⟩ := hF9 3
  cases e6
  obtain ⟨-, A7', k7', e7, ho7⟩ := hF9 5
  cases e7
  obtain ⟨-, b6', e6, hz6, hb6⟩ := hF9 6
  cases e6
  obtain ⟨-, b7', e7, hz7, hb7⟩ := hF9 7
  cases e7
  clear hF9
  simp only [List.drop_succ_cons, List.drop_zero]
  have hne67 : ¬ b7 = b6 := fun e => by
    rw [e, hb6] at hb7
    injection hb7 with q
    injection q with _ q2 _
    exact absurd q2 (by decide)
  obtain ⟨u0, u1, u2, fu⟩ := house_cells hb6
  obtain ⟨y0, y1, y2, fy⟩ := house_cells hb7
  obtain ⟨V1, hV1, q1, q2⟩ := put_house2 (v0 := .int .i64 h.mo) (v1 := .int .i64 h.pk) (v2 := .slice (some ⟨g5, 0, none⟩) N k5) hb6
  have hb71 := q2.heap hb7 hne67
  obtain ⟨V2, hV2, q3, q4⟩ := put_house2 (v0 := .int .i64 h.mo) (v1 := .int .i64 h.pk) (v2 := .slice A7 N k7) hb71
  obtain ⟨y3, y4, y5, fy2⟩ := house_cells hb71
  have q5 := q4.heap q1 (fun e => hne67 e.symm)
  have hE2 : Ext W0 V2 := (((Ext.belS (S := fun j => W0.heap.size ≤ j) hw9).trans (q2.mono fun k _ hk => by subst hk; exact hz6)).trans (q4.mono fun k _ hk => by subst hk; exact hz7)).ext (fun k hk hS => by omega)
  have o5 := q4.own (q2.own ho5 (fun j hj e => own_neC ho5 hb6 (by decide) (by rw [hj, e]))) (fun j hj e => own_neC ho5 hb7 (by decide) (by rw [hj, e]))
  have o6 := q4.own (q2.own ho6 (fun j hj e => own_neC ho6 hb6 (by decide) (by rw [hj, e]))) (fun j hj e => own_neC ho6 hb7 (by decide) (by rw [hj, e]))
  have o7 := q4.own (q2.own ho7 (fun j hj e => own_neC ho7 hb6 (by decide) (by rw [hj, e]))) (fun j hj e => own_neC ho7 hb7 (by decide) (by rw [hj, e]))
  have F5 : Hid (∀ w', Ext V2 w' → (w'.cell? ⟨b6, 0, none⟩ = some (.int .i64 h.mo) ∧ w'.cell? ⟨b6, 1, none⟩ = some (.int .i64 h.pk) ∧ w'.cell? ⟨b6, 2, none⟩ = some (.slice (some ⟨g5, 0, none⟩) N k5)) ∧ w'.cell? ⟨b7, 0, none⟩ = some (.int .i64 h.mo) ∧ w'.cell? ⟨b7, 1, none⟩ = some (.int .i64 h.pk) ∧ w'.cell? ⟨b7, 2, none⟩ = some (.slice A7 N k7)) := fun w' hx => by
    obtain ⟨a0, a1, a2, -⟩ := house_cells q5
    obtain ⟨d0, d1, d2, -⟩ := house_cells q3
    exact ⟨⟨hx.cell a0, hx.cell a1, hx.cell a2⟩, hx.cell d0, hx.cell d1, hx.cell d2⟩
  have HO : Hid (∀ w', Ext V2 w' → HsR w' (.agg #[.int .i64 h.mo, .int .i64 h.pk, .slice (some ⟨g5, 0, none⟩) N k5]) h) := fun w' hx => ⟨_, k5, by unfold hval; rw [HN.out], Rd.of_own (own_below o5 hx), by rw [HN.out]; exact own_cap2 o5⟩
  have HX : Hid (∀ w', Ext V2 w' → HsR w' (.agg #[.int .i64 h.mo, .int .i64 h.pk, .slice A7 N k7]) h) := fun w' hx => ⟨_, k7, by unfold hval; rw [HN.out], Rd.of_own (own_below o7 hx), by rw [HN.out]; exact own_cap2 o7⟩
  have HV1 := hid hV1
  have HV2 := hid hV2
  have hxV := hx0.trans hE2
  have HMI : Hid (∀ w', Ext V2 w' → Ints w' (some ⟨g6, 0, none⟩) l) := fun w' hx => Rd.of_own (own_below o6 hx)
  have HXR : Hid (∀ w', Ext V2 w' → Wgs w' A7 h.ws) := fun w' hx => Rd.of_own (own_below o7 hx)
  clear o6 hV1 hV2 q1 q2 q3 q4 q5 hb6 hb7 hb71 ho5 ho6 ho7 o5 o7 hz6 hz7
  have hne76 : ¬ b6 = b7 := fun e => hne67 e.symm
  obtain ⟨R, hR⟩ : ∃ R, checkH h = R := ⟨_, rfl⟩
  have HRR := hid hR
  have KC := refcheck_any _ h V2 (HX.out V2 (Ext.refl _)) HS.out
  rw [hR] at KC
  have KC := hid KC
  have KCO : Hid (∀ w', Ext V2 w' → _) := fun w' hw => check_any _ h w' (HO.out w' hw) HS.out
  rw [hR] at KCO
  go_upto_region 4 with fail
  rw [HV1.out, HV2.out]
  clear HV1 HV2 hne67 hne76 u0 u1 u2 fu y0 y1 y2 fy y3 y4 y5 fy2 hR
  obtain ⟨⟨a0, a1, a2⟩, d0, d1, d2⟩ := F5.out V2 (Ext.refl _)
  go_wp2_with fail
  refine KC.out.mono ?_
  rintro e V3 ⟨rfl, hx3⟩
  clear KC a0 a1 a2 d0 d1 d2
  obtain ⟨lo, hlo⟩ : ∃ x, lstV h n = x := ⟨_, rfl⟩
  obtain ⟨gr, hgr⟩ : ∃ x, grtV h n = x := ⟨_, rfl⟩
  obtain ⟨we, hwe⟩ : ∃ x, wgE h n = x := ⟨_, rfl⟩
  obtain ⟨uv, huv⟩ : ∃ x, undV h a b = x := ⟨_, rfl⟩
  obtain ⟨ue, hue⟩ : ∃ x, undE h a b = x := ⟨_, rfl⟩
  obtain ⟨tv, htv⟩ : ∃ x, wthV h l = x := ⟨_, rfl⟩
  obtain ⟨te, hte⟩ : ∃ x, wthE h l = x := ⟨_, rfl⟩
  obtain ⟨P, hP⟩ : ∃ P : Nat, tv.ws.length = P := ⟨_, rfl⟩
  have HLO := hid hlo
  have HGR := hid hgr
  have HWE := hid hwe
  have HUV := hid huv
  have HUE := hid hue
  have HTV := hid htv
  have HTE := hid hte
  have HP := hid hP
  have KL : Hid (∀ w', Ext V2 w' → _) := fun w' hw => leastx_any _ h n w' (HO.out w' hw) HS.out
  have KR : Hid (∀ w', Ext V2 w' → _) := fun w' hw => greatx_any _ h n w' (HO.out w' hw) HS.out
  have KU : Hid (∀ w', Ext V2 w' → _) := fun w' hw => undx_any _ h a b w' (HO.out w' hw) HS.out
  have KW : Hid (∀ w', Ext V2 w' → _) := fun w' hw => without_any _ h w' (HO.out w' hw) HS.out (some ⟨g6, 0, none⟩) k6 l (HMI.out w' hw) (by rw [HM.out]; omega)
  rw [hlo, hwe] at KL
  rw [hgr, hwe] at KR
  rw [huv, hue] at KU
  rw [htv, hte, HM.out, hP] at KW
  unfold rval at KL KR
  unfold hval at KW
  rw [hP] at KW
  clear hlo hgr hwe huv hue htv hte hP
  obtain ⟨⟨a0, a1, a2⟩, d0, d1, d2⟩ := F5.out V3 hx3
  go_wp2_with fail
  refine (KL.out V3 hx3).mono ?_
  rintro e V4 ⟨rfl, hx4⟩
  clear KL a0 a1 a2 d0 d1 d2
  go_upto_region 6 with fail
  obtain ⟨Q4, hQ4⟩ : ∃ Pw, V4.alloc (.cells #[.int .i64 lo.1, .int .i64 lo.2] 43) = Pw := ⟨_, rfl⟩
  have xQ4 : Ext V4 Q4 := by rw [← hQ4]; exact (Ext.refl _).alloc _
  have bQ4 : Q4.heap[V4.heap.size]? = some (.cells #[.int .i64 lo.1, .int .i64 lo.2] 43 (0, 0)) := by rw [← hQ4]; exact heap_alloc_new V4 _
  try rw [hQ4]
  obtain ⟨BL, hBL⟩ : ∃ b, V4.heap.size = b := ⟨_, rfl⟩
  rw [hBL] at bQ4
  try rw [hBL]
  clear hQ4 hBL
  have h4 := hx3.trans (hx4.trans xQ4)
  clear hx4
  obtain ⟨⟨a0, a1, a2⟩, d0, d1, d2⟩ := F5.out Q4 h4
  go_wp2_with fail
  refine (KR.out Q4 h4).mono ?_
  rintro e V5 ⟨rfl, hx5⟩
  clear KR a0 a1 a2 d0 d1 d2
  go_upto_region 7 with fail
  obtain ⟨Q5, hQ5⟩ : ∃ Pw, V5.alloc (.cells #[.int .i64 gr.1, .int .i64 gr.2] 43) = Pw := ⟨_, rfl⟩
  have xQ5 : Ext V5 Q5 := by rw [← hQ5]; exact (Ext.refl _).alloc _
  have bQ5 : Q5.heap[V5.heap.size]? = some (.cells #[.int .i64 gr.1, .int .i64 gr.2] 43 (0, 0)) := by rw [← hQ5]; exact heap_alloc_new V5 _
  try rw [hQ5]
  obtain ⟨BG, hBG⟩ : ∃ b, V5.heap.size = b := ⟨_, rfl⟩
  rw [hBG] at bQ5
  try rw [hBG]
  clear hQ5 hBG
  have h5 := h4.trans (hx5.trans xQ5)
  obtain ⟨⟨a0, a1, a2⟩, d0, d1, d2⟩ := F5.out Q5 h5
  go_wp2_with fail
  refine (KU.out Q5 h5).mono ?_
  rintro e V6 ⟨rfl, hx6⟩
  clear KU a0 a1 a2 d0 d1 d2
  have h6 := h5.trans hx6
  obtain ⟨⟨a0, a1, a2⟩, d0, d1, d2⟩ := F5.out V6 h6
  go_wp2_with fail
  refine (KW.out V6 h6).mono ?_
  rintro e V7 ⟨A8, c8, rfl, hx7, ho8⟩
  clear KW a0 a1 a2 d0 d1 d2
  go_upto_region 9 with fail
  obtain ⟨Q7, hQ7⟩ : ∃ Pw, V7.alloc (.cells #[.int .i64 tv.mo, .int .i64 tv.pk, .slice A8 P c8] 25) = Pw := ⟨_, rfl⟩
  have xQ7 : Ext V7 Q7 := by rw [← hQ7]; exact (Ext.refl _).alloc _
  have bQ7 : Q7.heap[V7.heap.size]? = some (.cells #[.int .i64 tv.mo, .int .i64 tv.pk, .slice A8 P c8] 25 (0, 0)) := by rw [← hQ7]; exact heap_alloc_new V7 _
  try rw [hQ7]
  obtain ⟨BT, hBT⟩ : ∃ b, V7.heap.size = b := ⟨_, rfl⟩
  rw [hBT] at bQ7
  try rw [hBT]
  clear hQ7 hBT
  have ho8 := own_below ho8 xQ7
  have h7 := h6.trans (hx7.trans xQ7)
  have hx67 := hx7.trans xQ7
  obtain ⟨⟨a0, a1, a2⟩, d0, d1, d2⟩ := F5.out Q7 h7
  go_wp2_with fail
  refine (KCO.out Q7 h7).mono ?_
  rintro e V8 ⟨rfl, hx8⟩
  clear KCO a0 a1 a2 d0 d1 d2
  have ho8 := own_below ho8 hx8
  have h8 := h7.trans hx8
  have hx68 := hx67.trans hx8
  have HLL : Hid (∀ w', Ext V8 w' → V8.heap[BL]? = some (.cells #[.int .i64 lo.1, .int .i64 lo.2] 43 (0, 0))) := fun _ _ => by
    exact (Below.block (hx5.trans (xQ5.trans (hx6.trans hx68))) _ (Array.getElem?_eq_some_iff.1 bQ4).1).trans bQ4
  have bL8 := HLL.out V8 (Ext.refl _)
  have bG8 : V8.heap[BG]? = some (.cells #[.int .i64 gr.1, .int .i64 gr.2] 43 (0, 0)) := (Below.block (hx6.trans hx68) _ (Array.getElem?_eq_some_iff.1 bQ5).1).trans bQ5
  have bT8 : V8.heap[BT]? = some (.cells #[.int .i64 tv.mo, .int .i64 tv.pk, .slice A8 P c8] 25 (0, 0)) := (Below.block hx8 _ (Array.getElem?_eq_some_iff.1 bQ7).1).trans bQ7
  have HBL := hid bL8
  have HBG := hid bG8
  have HBT := hid bT8
  have HO8 := hid ho8
  have hV6c := hx68.size
  clear HLL bL8 bG8 bT8 ho8 bQ4 bQ5 bQ7 hx3 xQ4 hx5 xQ5 hx6 hx7 xQ7 h4 h5 h7 hx67 hx8
  go_upto_region 14 with fail
  obtain ⟨Q9, hQ9⟩ : ∃ Pw, ((V8.alloc (.cells #[.int .i64 0, .int .i64 0] 43)).alloc (.cells #[.int .i64 0, .int .i64 0] 43)).alloc (.cells #[.int .i64 0, .int .i64 0, .slice none 0 0] 25) = Pw := ⟨_, rfl⟩
  have xQ9 : Ext V8 Q9 := by rw [← hQ9]; exact (Ext.refl _).alloc _ |>.alloc _ |>.alloc _
  have bza : Q9.heap[V8.heap.size]? = some (.cells #[.int .i64 0, .int .i64 0] 43 (0, 0)) := by
    rw [← hQ9]
    exact (Below.heap_alloc _ _ _ (by simp; omega)).trans ((Below.heap_alloc _ _ _ (by simp)).trans (heap_alloc_new V8 _))
  have bzb : Q9.heap[V8.heap.size + 1]? = some (.cells #[.int .i64 0, .int .i64 0] 43 (0, 0)) := by
    rw [← hQ9]
    have q := heap_alloc_new (V8.alloc (.cells #[.int .i64 0, .int .i64 0] 43)) (.cells #[.int .i64 0, .int .i64 0] 43)
    rw [World.size_alloc] at q
    exact (Below.heap_alloc _ _ _ (by simp)).trans q
  have bzc : Q9.heap[V8.heap.size + 1 + 1]? = some (.cells #[.int .i64 0, .int .i64 0, .slice none 0 0] 25 (0, 0)) := by
    rw [← hQ9]
    have q := heap_alloc_new ((V8.alloc (.cells #[.int .i64 0, .int .i64 0] 43)).alloc (.cells #[.int .i64 0, .int .i64 0] 43)) (.cells #[.int .i64 0, .int .i64 0, .slice none 0 0] 25)
    rw [World.size_alloc, World.size_alloc] at q
    exact q
  try rw [hQ9]
  obtain ⟨BZ, hBZ⟩ : ∃ b, V8.heap.size = b := ⟨_, rfl⟩
  have hBZc : V8.heap.size ≤ BZ := by omega
  rw [hBZ] at bza bzb bzc
  try rw [hBZ]
  clear hQ9 hBZ
  have h9 := h8.trans xQ9
  go_upto_if 84 with fail
  go_cut [23, 24, 25, 29] (fun s23 s24 s25 s29 wx => s23 = .int .i64 we ∧ s24 = .int .i64 ue ∧ s25 = .int .i64 te ∧ s29 = .bool uv ∧ wx.heap[BZ]? = some (.cells #[.int .i64 lo.1, .int .i64 lo.2] 43 (0, 0)) ∧ wx.heap[BZ + 1]? = some (.cells #[.int .i64 gr.1, .int .i64 gr.2] 43 (0, 0)) ∧ (∃ A9 c9, wx.heap[BZ + 1 + 1]? = some (.cells #[.int .i64 tv.mo, .int .i64 tv.pk, .slice A9 P c9] 25 (0, 0)) ∧ Wgs wx A9 tv.ws ∧ P ≤ c9) ∧ Ext V8 wx)
  case first =>
    by_cases h0 : R = 0
    case neg =>
      as_aux_lemma =>
       have h0b : (R == 0) = false := by simp [h0]
       have e1 : we = R := by rw [← HWE.out]; unfold wgE; rw [HRR.out, if_pos h0]
       have e2 : ue = R := by rw [← HUE.out]; unfold undE; rw [HRR.out, if_pos h0]
       have e3 : te = R := by rw [← HTE.out]; unfold wthE; rw [HRR.out, if_pos h0]
       have f1 : lo = (0, 0) := by rw [← HLO.out]; unfold lstV; rw [HWE.out, e1, if_neg h0]
       have f2 : gr = (0, 0) := by rw [← HGR.out]; unfold grtV; rw [HWE.out, e1, if_neg h0]
       have f3 : uv = false := by rw [← HUV.out]; unfold undV; rw [HUE.out, e2, decide_eq_false h0]; rfl
       have f4 : tv = ⟨0, 0, []⟩ := by rw [← HTV.out]; unfold wthV; rw [HTE.out, e3, if_neg h0]
       have f5 : P = 0 := by rw [← HP.out, f4]; rfl
       have hfin := And.intro bza (And.intro bzb (And.intro bzc xQ9))
       have HF := hid hfin
       clear hfin bza bzb bzc xQ9 HLO HGR HWE HUV HUE HTV HTE HP HO8 HBL HBG HBT
       subst e1 e2 e3 f1 f2 f3 f4 f5
       go_wp2_with fail
       go_meet
       exact ⟨rfl, rfl, rfl, rfl, HF.out.1, HF.out.2.1, ⟨none, 0, HF.out.2.2.1, Rows.nil _ _ _, Nat.le_refl _⟩, HF.out.2.2.2⟩
    subst h0
    have hk := checkH_ok HRR.out
    have HK := hid hk
    clear hk
    go_upto_region 17 with fail
    obtain ⟨IN, hIN⟩ : ∃ b, wgOK h n = b := ⟨_, rfl⟩
    have HIN := hid hIN
    clear hIN
    go_cut [93] (fun s wx => s = .bool IN ∧ Q9 = wx)
    case first =>
      as_aux_lemma =>
       obtain ⟨c0, c1, c2⟩ := FH.out Q9 (hE2.trans h9)
       by_cases m1 : 0 ≤ n
       · have m1' : n ≥ 0 := m1
         by_cases m2 : n < (N : Int)
         · have e : IN = true := by rw [← HIN.out]; exact wgOK_iff.2 ⟨m1, by rw [HN.out]; exact m2⟩
           subst e
           go_wp2_with fail
           go_meet
           exact ⟨rfl, rfl⟩
         · have e : IN = false := by rw [← HIN.out, Bool.eq_false_iff]; intro q; have q2 := (wgOK_iff.1 q).2; rw [HN.out] at q2; omega
           subst e
           go_wp2_with fail
           go_meet
           exact ⟨rfl, rfl⟩
       · have m1' : ¬ n ≥ 0 := m1
         have e : IN = false := by rw [← HIN.out, Bool.eq_false_iff]; intro q; have q2 := (wgOK_iff.1 q).1; omega
         subst e
         go_wp2_with fail
         go_meet
         exact ⟨rfl, rfl⟩
    case rest =>
      obtain ⟨rfl, hwq⟩ := hcut
      subst hwq
      have HWE2 : Hid (we = if IN = true then 0 else 1) := by unfold Hid; rw [← HWE.out]; unfold wgE; rw [if_neg (by simp [HRR.out]), HIN.out]
      have HLO2 : Hid (lo = if we = 0 then (wgAt h n.toNat).lo else (0, 0)) := by unfold Hid; rw [← HLO.out, ← HWE.out]; rfl
      have HGR2 : Hid (gr = if we = 0 then (wgAt h n.toNat).hi else (0, 0)) := by unfold Hid; rw [← HGR.out, ← HWE.out]; rfl
      clear HLO HGR HWE
      go_upto_if 93 with fail
      go_cut [23] (fun s23 wx => s23 = .int .i64 we ∧ wx.heap[BZ]? = some (.cells #[.int .i64 lo.1, .int .i64 lo.2] 43 (0, 0)) ∧ wx.heap[BZ + 1]? = some (.cells #[.int .i64 gr.1, .int .i64 gr.2] 43 (0, 0)) ∧ wx.heap[BZ + 1 + 1]? = some (.cells #[.int .i64 0, .int .i64 0, .slice none 0 0] 25 (0, 0)) ∧ Ext V8 wx)
      case first =>
        as_aux_lemma =>
         obtain hIc | hIc : IN = true ∨ IN = false := by cases IN <;> simp
         · subst hIc
           obtain rfl : we = 0 := HWE2.out
           obtain ⟨k, hk⟩ : ∃ k : Nat, n = k := ⟨n.toNat, by have := (wgOK_iff.1 HIN.out).1; omega⟩
           subst hk
           have hkN : k < N := by have q := (wgOK_iff.1 HIN.out).2; rw [HN.out] at q; omega
           have hkN' : (k : Int) < (N : Int) := by omega
           obtain ⟨x, hxk⟩ := get_of_lt h.ws k (by rw [HN.out]; exact hkN)
           obtain ⟨b2, o2, e2, g0, g1, g2, g3, g4⟩ := Wgs.at_ (HXR.out Q9 h9) hxk
           subst e2
           have hwat : wgAt h k = x := by unfold wgAt; rw [List.getD_eq_getElem?_getD, hxk]; rfl
           have hlo : lo = x.lo := by have q := HLO2.out; rw [if_pos rfl, Int.toNat_natCast, hwat] at q; exact q
           have hgr : gr = x.hi := by have q := HGR2.out; rw [if_pos rfl, Int.toNat_natCast, hwat] at q; exact q
           have hmx := wgM_of HK.out (List.mem_of_getElem? hxk)
           have KLo := hid fun w' => refleast_any x w' hmx
           have KHi := hid fun w' => refmost_any x w' hmx
           rw [← hlo] at KLo
           rw [← hgr] at KHi
           unfold Wg.val rval at KLo KHi
           have FX : Hid (∀ w', Ext Q9 w' → (w'.cell? ⟨b7, 0, none⟩ = some (.int .i64 h.mo) ∧ w'.cell? ⟨b7, 1, none⟩ = some (.int .i64 h.pk) ∧ w'.cell? ⟨b7, 2, none⟩ = some (.slice (some ⟨b2, o2, none⟩) N k7)) ∧ w'.cell? ⟨b2, o2 + k * 5, none⟩ = some (.int .i64 x.mo) ∧ w'.cell? ⟨b2, o2 + k * 5 + 1, none⟩ = some (.int .i64 x.sl) ∧ w'.cell? ⟨b2, o2 + k * 5 + 2, none⟩ = some (.int .i64 x.sh) ∧ w'.cell? ⟨b2, o2 + k * 5 + 3, none⟩ = some (.int .i64 x.ml) ∧ w'.cell? ⟨b2, o2 + k * 5 + 4, none⟩ = some (.int .i64 x.mh)) := fun w' hw =>
             ⟨(F5.out w' (h9.trans hw)).2, hw.cell g0, hw.cell g1, hw.cell g2, hw.cell g3, hw.cell g4⟩
           clear hxk hwat hlo hgr hmx g0 g1 g2 g3 g4 HLO2 HGR2 HWE2 HIN
           go_upto_region 18 with fail
           refine wp_region_shut_tail Ext (fun w' => Ext Q9 w') (fun
             | 5 => some (fun v _ => v = .agg #[.int .i64 lo.1, .int .i64 lo.2]) 
             | 11 => some (fun v _ => v = .agg #[.int .i64 gr.1, .int .i64 gr.2])
             | _ => none) 12 (by kernel_rfl) (by kernel_rfl) (fun _ _ h k => h.trans k) ?hTr18 (Ext.drew (Ext.refl Q9)) ?_
           case hTr18 =>
             intro i R hR
             match i, hR with
             | 5, hR => cases hR; exact fun _ _ _ h _ => h
             | 11, hR => cases hR; exact fun _ _ _ h _ => h
           refine wM_val ?ur180 rfl rfl Ext.refl (fun w' hD => ?hr180) (fun phr180 => ?nr180)
           case hr180 =>
             obtain ⟨⟨p0, p1, p2⟩, p3, p4, p5, p6, p7⟩ := FX.out w' hD.1
             go_simp; rfl
           simp only [Act.put, List.setIfInBounds_toArray, List.set_cons_succ, List.set_cons_zero, Nat.reduceAdd]
           refine wM_val ?ur181 rfl rfl Ext.refl (fun w' hD => ?hr181) (fun phr181 => ?nr181)
           case hr181 =>
             obtain ⟨⟨p0, p1, p2⟩, p3, p4, p5, p6, p7⟩ := FX.out w' hD.1
             go_simp; rfl
           simp only [Act.put, List.setIfInBounds_toArray, List.set_cons_succ, List.set_cons_zero, Nat.reduceAdd]
           refine wM_val ?ur182 rfl rfl Ext.refl (fun w' hD => ?hr182) (fun phr182 => ?nr182)
           case hr182 =>
             obtain ⟨⟨p0, p1, p2⟩, p3, p4, p5, p6, p7⟩ := FX.out w' hD.1
             go_simp; rfl
           simp only [Act.put, List.setIfInBounds_toArray, List.set_cons_succ, List.set_cons_zero, Nat.reduceAdd]
           refine wM_val ?ur183 rfl rfl Ext.refl (fun w' hD => ?hr183) (fun phr183 => ?nr183)
           case hr183 =>
             obtain ⟨⟨p0, p1, p2⟩, p3, p4, p5, p6, p7⟩ := FX.out w' hD.1
             go_simp; rfl
           simp only [Act.put, List.setIfInBounds_toArray, List.set_cons_succ, List.set_cons_zero, Nat.reduceAdd]
           refine wM_val ?ur184 rfl rfl Ext.refl (fun w' hD => ?hr184) (fun phr184 => ?nr184)
           case hr184 =>
             obtain ⟨⟨p0, p1, p2⟩, p3, p4, p5, p6, p7⟩ := FX.out w' hD.1
             go_simp; rfl
           simp only [Act.put, List.setIfInBounds_toArray, List.set_cons_succ, List.set_cons_zero, Nat.reduceAdd]
           refine wM_op _ rfl rfl (opens_call ?fr185 ?gr185 (fun w' hD => ?hr185) (fun w' hD => ?cr185)) (fun v5 hv5 => ?nr185)
           case hr185 => go_simp; constructor <;> rfl
           case cr185 =>
             refine (KLo.out w').mono ?_
             rintro e w2 ⟨rfl, hb⟩
             exact ⟨_, rfl, hb, rfl⟩
           obtain ⟨_, -, -, rfl⟩ := hv5
           simp only [Act.put, List.setIfInBounds_toArray, List.set_cons_succ, List.set_cons_zero, Nat.reduceAdd]
           refine wM_val ?ur186 rfl rfl Ext.refl (fun w' hD => ?hr186) (fun phr186 => ?nr186)
           case hr186 =>
             obtain ⟨⟨p0, p1, p2⟩, p3, p4, p5, p6, p7⟩ := FX.out w' hD.1
             go_simp; rfl
           simp only [Act.put, List.setIfInBounds_toArray, List.set_cons_succ, List.set_cons_zero, Nat.reduceAdd]
           refine wM_val ?ur187 rfl rfl Ext.refl (fun w' hD => ?hr187) (fun phr187 => ?nr187)
           case hr187 =>
             obtain ⟨⟨p0, p1, p2⟩, p3, p4, p5, p6, p7⟩ := FX.out w' hD.1
             go_simp; rfl
           simp only [Act.put, List.setIfInBounds_toArray, List.set_cons_succ, List.set_cons_zero, Nat.reduceAdd]
           refine wM_val ?ur188 rfl rfl Ext.refl (fun w' hD => ?hr188) (fun phr188 => ?nr188)
           case hr188 =>
             obtain ⟨⟨p0, p1, p2⟩, p3, p4, p5, p6, p7⟩ := FX.out w' hD.1
             go_simp; rfl
           simp only [Act.put, List.setIfInBounds_toArray, List.set_cons_succ, List.set_cons_zero, Nat.reduceAdd]
           refine wM_val ?ur189 rfl rfl Ext.refl (fun w' hD => ?hr189) (fun phr189 => ?nr189)
           case hr189 =>
             obtain ⟨⟨p0, p1, p2⟩, p3, p4, p5, p6, p7⟩ := FX.out w' hD.1
             go_simp; rfl
           simp only [Act.put, List.setIfInBounds_toArray, List.set_cons_succ, List.set_cons_zero, Nat.reduceAdd]
           refine wM_val ?ur1810 rfl rfl Ext.refl (fun w' hD => ?hr1810) (fun phr1810 => ?nr1810)
           case hr1810 =>
             obtain ⟨⟨p0, p1, p2⟩, p3, p4, p5, p6, p7⟩ := FX.out w' hD.1
             go_simp; rfl
           simp only [Act.put, List.setIfInBounds_toArray, List.set_cons_succ, List.set_cons_zero, Nat.reduceAdd]
           refine wM_op _ rfl rfl (opens_call ?fr1811 ?gr1811 (fun w' hD => ?hr1811) (fun w' hD => ?cr1811)) (fun v11 hv11 => ?nr1811)
           case hr1811 => go_simp; constructor <;> rfl
           case cr1811 =>
             refine (KHi.out w').mono ?_
             rintro e w2 ⟨rfl, hb⟩
             exact ⟨_, rfl, hb, rfl⟩
           obtain ⟨_, -, -, rfl⟩ := hv11
           simp only [Act.put, List.setIfInBounds_toArray, List.set_cons_succ, List.set_cons_zero, Nat.reduceAdd]
           refine wM_nil ?_
           intro w9 hw9 hF9
           clear hF9
           simp only [List.drop_succ_cons, List.drop_zero]
           clear FX KLo KHi
           have bza' := (Below.block hw9 _ (Array.getElem?_eq_some_iff.1 bza).1).trans bza
           have bzb' := (Below.block hw9 _ (Array.getElem?_eq_some_iff.1 bzb).1).trans bzb
           have bzc' := (Below.block hw9 _ (Array.getElem?_eq_some_iff.1 bzc).1).trans bzc
           obtain ⟨t0, t1, tf⟩ := rat_cells bza'
           obtain ⟨v0, v1, vf⟩ := rat_cells bzb'
           obtain ⟨p1, p2, p3⟩ := rat_put2 bza' bzb' (by omega) (xQ9.trans hw9) hBZc (by omega) (.int .i64 lo.1) (.int .i64 lo.2) (.int .i64 gr.1) (.int .i64 gr.2)
           have p4 : ((((w9.setCell ⟨BZ, 0, none⟩ (.int .i64 lo.1)).setCell ⟨BZ, 1, none⟩ (.int .i64 lo.2)).setCell ⟨BZ + 1, 0, none⟩ (.int .i64 gr.1)).setCell ⟨BZ + 1, 1, none⟩ (.int .i64 gr.2)).heap[BZ + 1 + 1]? = some (.cells #[.int .i64 0, .int .i64 0, .slice none 0 0] 25 (0, 0)) := by
             rw [heap_setCell_ne _ _ _ _ (by show BZ + 1 + 1 ≠ BZ + 1; omega), heap_setCell_ne _ _ _ _ (by show BZ + 1 + 1 ≠ BZ + 1; omega), heap_setCell_ne _ _ _ _ (by show BZ + 1 + 1 ≠ BZ; omega), heap_setCell_ne _ _ _ _ (by show BZ + 1 + 1 ≠ BZ; omega)]
             exact bzc'
           obtain ⟨W12, hW12⟩ : ∃ W, ((((w9.setCell ⟨BZ, 0, none⟩ (.int .i64 lo.1)).setCell ⟨BZ, 1, none⟩ (.int .i64 lo.2)).setCell ⟨BZ + 1, 0, none⟩ (.int .i64 gr.1)).setCell ⟨BZ + 1, 1, none⟩ (.int .i64 gr.2)) = W := ⟨_, rfl⟩
           rw [hW12] at p1 p2 p3 p4
           have HW12 := hid hW12
           clear hW12 bza bzb bzc bza' bzb' bzc'
           go_wp2_with fail
           try rw [HW12.out]
           go_meet
           exact ⟨rfl, p1, p2, p4, p3⟩
         · subst hIc
           obtain rfl : we = 1 := HWE2.out
           obtain rfl : lo = (0, 0) := HLO2.out
           obtain rfl : gr = (0, 0) := HGR2.out
           have HF := hid (And.intro bza (And.intro bzb (And.intro bzc xQ9)))
           clear bza bzb bzc xQ9
           go_wp2_with fail
           go_meet
           exact ⟨rfl, HF.out.1, HF.out.2.1, HF.out.2.2.1, HF.out.2.2.2⟩
      case rest =>
        obtain ⟨rfl, bza2, bzb2, bzc2, hcx⟩ := hcut
        clear bza bzb bzc xQ9 HLO2 HGR2 HWE2
        obtain ⟨wA, hwA⟩ : ∃ x : World, x = wc := ⟨_, rfl⟩
        subst hwA
        have hA9 := h8.trans hcx
        go_upto_region 20 with fail
        obtain ⟨IU, hIU⟩ : ∃ q, (moOK h a && moOK h b) = q := ⟨_, rfl⟩
        have HIU := hid hIU
        clear hIU
        have hpk := HK.out.pk
        go_cut [123] (fun s wx => s = .bool IU ∧ wA = wx)
        case first =>
          as_aux_lemma =>
           obtain ⟨c0, c1, c2⟩ := FH.out wA (hE2.trans hA9)
           clear hpk
           by_cases m1 : 0 ≤ a
           · have m1' : a ≥ 0 := m1
             by_cases m2 : a < h.mo
             · by_cases m3 : 0 ≤ b
               · have m3' : b ≥ 0 := m3
                 by_cases m4 : b < h.mo
                 · have e : IU = true := by rw [← HIU.out]; unfold moOK; rw [inB_iff.2 ⟨m1, by omega⟩, inB_iff.2 ⟨m3, by omega⟩]; rfl
                   subst e
                   go_wp2_with fail
                   go_meet
                   exact ⟨rfl, rfl⟩
                 · have e : IU = false := by rw [← HIU.out]; unfold moOK; rw [show inB b 0 (h.mo - 1) = false from by rw [Bool.eq_false_iff]; intro q; have := inB_iff.1 q; omega, Bool.and_false]
                   subst e
                   go_wp2_with fail
                   go_meet
                   exact ⟨rfl, rfl⟩
               · have m3' : ¬ b ≥ 0 := m3
                 have e : IU = false := by rw [← HIU.out]; unfold moOK; rw [show inB b 0 (h.mo - 1) = false from by rw [Bool.eq_false_iff]; intro q; have := inB_iff.1 q; omega, Bool.and_false]
                 subst e
                 go_wp2_with fail
                 go_meet
                 exact ⟨rfl, rfl⟩
             · have e : IU = false := by rw [← HIU.out]; unfold moOK; rw [show inB a 0 (h.mo - 1) = false from by rw [Bool.eq_false_iff]; intro q; have := inB_iff.1 q; omega, Bool.false_and]
               subst e
               go_wp2_with fail
               go_meet
               exact ⟨rfl, rfl⟩
           · have m1' : ¬ a ≥ 0 := m1
             have e : IU = false := by rw [← HIU.out]; unfold moOK; rw [show inB a 0 (h.mo - 1) = false from by rw [Bool.eq_false_iff]; intro q; have := inB_iff.1 q; omega, Bool.false_and]
             subst e
             go_wp2_with fail
             go_meet
             exact ⟨rfl, rfl⟩
        case rest =>
          obtain ⟨rfl, hwq⟩ := hcut
          subst hwq
          have HUE2 : Hid (ue = if IU = true then 0 else 1) := by unfold Hid; rw [← HUE.out]; unfold undE; rw [if_neg (by simp [HRR.out]), HIU.out]
          have HUV2 : Hid (uv = (decide (ue = 0) && undH h a b)) := by unfold Hid; rw [← HUV.out, ← HUE.out]; rfl
          clear HUE HUV
          go_upto_if 123 with fail
          go_cut [24, 29] (fun s24 s29 wx => s24 = .int .i64 ue ∧ s29 = .bool uv ∧ Ext wA wx)
          case first =>
            as_aux_lemma =>
             obtain hIc | hIc : IU = true ∨ IU = false := by cases IU <;> simp
             · subst hIc
               obtain rfl : ue = 0 := HUE2.out
               have huv : uv = undH h a b := HUV2.out
               have KUr := refunder_any _ h a b wA (HX.out wA hA9)
               rw [← huv] at KUr
               have KUr := hid KUr
               clear huv HUV2
               obtain ⟨⟨a0, a1, a2⟩, d0, d1, d2⟩ := F5.out wA hA9
               go_wp2_with fail
               refine KUr.out.mono ?_
               rintro e wB ⟨rfl, hxB⟩
               clear KUr a0 a1 a2 d0 d1 d2
               go_wp2_with fail
               go_meet
               exact ⟨rfl, rfl, hxB⟩
             · subst hIc
               obtain rfl : ue = 1 := HUE2.out
               obtain rfl : uv = false := HUV2.out
               go_wp2_with fail
               go_meet
               exact ⟨rfl, rfl, Ext.refl _⟩
          case rest =>
            obtain ⟨rfl, rfl, hcb⟩ := hcut
            obtain ⟨wB, hwB⟩ : ∃ x : World, x = wc := ⟨_, rfl⟩
            subst hwB
            have bza := (Below.block hcb _ (Array.getElem?_eq_some_iff.1 bza2).1).trans bza2
            have bzb := (Below.block hcb _ (Array.getElem?_eq_some_iff.1 bzb2).1).trans bzb2
            have bzc := (Below.block hcb _ (Array.getElem?_eq_some_iff.1 bzc2).1).trans bzc2
            have hB9 := hA9.trans hcb
            have hcx := hcx.trans hcb
            clear bza2 bzb2 bzc2 HUE2 HUV2 HIU hA9 hcb
            have hmk := fun w => run_make_row' (P := Try.prog) 109 4 (.bool false) 1 Try.underlying109 infoBool rfl .i64 .i64 N (by omega) (by omega) w
            obtain ⟨c0, c1, c2⟩ := FH.out wB (hE2.trans hB9)
            go_upto_region 23 with fail
            obtain ⟨W2, hW2⟩ : ∃ W2, wB.alloc (.cells (madeCells #[.bool false] N) 4) = W2 := ⟨_, rfl⟩
            have hxW2 : Ext wB W2 := by rw [← hW2]; exact Ext.alloc (Ext.refl _) _
            obtain ⟨GB, hGB⟩ : ∃ b, wB.heap.size = b := ⟨_, rfl⟩
            have hGBc : wB.heap.size ≤ GB := by omega
            have hI0 : Brow W2 GB (gonL N (l.take 0)) := by
              rw [List.take_zero, gonL_nil, ← hW2, made_brow, ← hGB]; exact World.alloc_heap_new _ _
            try rw [hW2]
            try rw [hGB]
            clear hW2 hGB hmk c0 c1 c2
            have HP0 : Hid (witE h (l.take 0) (l.drop 0) = te) := by
              unfold Hid
              rw [List.take_zero, List.drop_zero, ← HTE.out]
              unfold wthE
              rw [if_neg (by simp [HRR.out])]
            go_wp2
            go_loopw [25, 134] (fun s25 i wr => ∃ (j : Nat) (t : Int) (gl : List Bool), i = .int .i64 (j : Int) ∧ j ≤ M ∧ s25 = .int .i64 t ∧ Hid (gl.length = N) ∧ Brow wr GB gl ∧ Hid ((t = 0 ∧ gl = gonL N (l.take j) ∧ witE h (l.take j) (l.drop j) = te) ∨ (t ≠ 0 ∧ t = te)) ∧ Ext wB wr) (fun _ i _ => M - (intOf i).toNat)
            case atStart => exact ⟨0, 0, _, rfl, Nat.zero_le _, rfl, gonL_len _ _, hI0, Or.inl ⟨rfl, rfl, HP0.out⟩, hxW2⟩
            case round =>
              obtain ⟨j, t, gl, rfl, hj, rfl, HGL, hbr, HST, hx⟩ := hrel
              by_cases hlt : j < M
              · have hlt' : (j : Int) < (M : Int) := by omega
                obtain ⟨y, hy⟩ := get_of_lt l j (by rw [HM.out]; exact hlt)
                obtain ⟨b2, o2, e2, ky⟩ := Ints.at_ (HA.out wr (hE2.trans (hB9.trans hx))) hy
                by_cases ht : t = 0
                · have hst : gl = gonL N (l.take j) ∧ witE h (l.take j) (l.drop j) = te := by
                    rcases HST.out with ⟨-, q1, q2⟩ | ⟨q, -⟩
                    · exact ⟨q1, q2⟩
                    · exact absurd ht q
                  have HPD : Hid ((if wgOK h y = false then 1 else if memI y (l.take j) then 5 else witE h (l.take (j + 1)) (l.drop (j + 1))) = te) := by
                    unfold Hid
                    rw [← hst.2, show l.drop j = y :: l.drop (j + 1) from by rw [List.drop_eq_getElem_cons (i := j) (by rw [HM.out]; exact hlt), (List.getElem?_eq_some_iff.1 hy).2]]
                    rw [witE, witE_congr h (l.drop (j + 1)) (y :: l.take j) (l.take (j + 1)) fun x => by
                      rw [Bool.eq_iff_iff, mem_memI, mem_memI, List.take_add_one, hy]; simp [or_comm]]
                  have HTK : Hid (l.take j ++ [y] = l.take (j + 1)) := by unfold Hid; rw [List.take_add_one, hy]; rfl
                  have HGE := hid hst.1
                  subst ht
                  subst e2
                  clear hst HST hy
                  by_cases y1 : y < 0
                  · have e1 : te = 1 := by rw [← HPD.out, if_pos (by rw [Bool.eq_false_iff]; intro q; have := (wgOK_iff.1 q).1; omega)]
                    subst e1
                    clear HPD
                    go_wp2
                    go_roundw
                    case rel => exact ⟨j + 1, 1, gl, by go_num, by omega, rfl, HGL, hbr, Or.inr ⟨by decide, rfl⟩, hx⟩
                    case measure => simp [intOf]; omega
                  · by_cases y2 : y ≥ (N : Int)
                    · have e1 : te = 1 := by rw [← HPD.out, if_pos (by rw [Bool.eq_false_iff]; intro q; have q2 := (wgOK_iff.1 q).2; rw [HN.out] at q2; omega)]
                      subst e1
                      clear HPD
                      go_wp2
                      go_roundw
                      case rel => exact ⟨j + 1, 1, gl, by go_num, by omega, rfl, HGL, hbr, Or.inr ⟨by decide, rfl⟩, hx⟩
                      case measure => simp [intOf]; omega
                    · have hok : wgOK h y = true := wgOK_iff.2 ⟨by omega, by rw [HN.out]; omega⟩
                      obtain ⟨k, hk⟩ : ∃ k : Nat, y = k := ⟨y.toNat, by omega⟩
                      subst hk
                      have hkN : k < N := by omega
                      have hkN' : (k : Int) < (N : Int) := by omega
                      have hcell := hbr.at_ (by rw [HGE.out]; exact gonL_get _ hkN)
                      have hfz := hbr.frozen k
                      have HOK := hid hok
                      clear hok
                      obtain hmm | hmm : memI (k : Int) (l.take j) = true ∨ memI (k : Int) (l.take j) = false := by cases memI (k : Int) (l.take j) <;> simp
                      · rw [hmm] at hcell
                        have e1 : te = 5 := by rw [← HPD.out, if_neg (by rw [HOK.out]; simp), if_pos hmm]
                        subst e1
                        clear HPD hmm
                        go_wp2
                        go_roundw
                        case rel => exact ⟨j + 1, 5, gl, by go_num, by omega, rfl, HGL, hbr, Or.inr ⟨by decide, rfl⟩, hx⟩
                        case measure => simp [intOf]; omega
                      · rw [hmm] at hcell
                        have HPN : Hid (witE h (l.take (j + 1)) (l.drop (j + 1)) = te) := by unfold Hid; rw [← HPD.out, if_neg (by rw [HOK.out]; simp), if_neg (by rw [hmm]; simp)]
                        have hI2 := hbr.set k true
                        have HGN : Hid (gl.set k true = gonL N (l.take (j + 1))) := by unfold Hid; rw [HGE.out, gonL_put _ hkN, HTK.out]
                        have HI2 := hid hI2
                        have hx2 := hx.setCell (p := ⟨GB, k, none⟩) hGBc (.bool true)
                        clear HPD hmm hI2 hbr
                        go_wp2
                        go_roundw
                        case rel => exact ⟨j + 1, 0, gl.set k true, by go_num, by omega, rfl, by unfold Hid; rw [List.length_set]; exact HGL.out, HI2.out, Or.inl ⟨rfl, HGN.out, HPN.out⟩, hx2⟩
                        case measure => simp [intOf]; omega
                · have h0b : (t != 0) = true := by simpa using ht
                  have e1 : t = te := by
                    rcases HST.out with ⟨q, -⟩ | ⟨-, q⟩
                    · exact absurd q ht
                    · exact q
                  subst e2
                  have HST2 : Hid (t ≠ 0 ∧ t = te) := ⟨ht, e1⟩
                  clear HST hy e1
                  go_wp2
                  go_roundw
                  case rel => exact ⟨j + 1, t, gl, by go_num, by omega, rfl, HGL, hbr, Or.inr HST2.out, hx⟩
                  case measure => simp [intOf]; omega
              · have hlt' : ¬ (j : Int) < (M : Int) := by omega
                have hte : t = te ∧ (te = 0 → gl = gonL N l) := by
                  rcases HST.out with ⟨q, q1, q2⟩ | ⟨q1, q2⟩
                  · rw [List.drop_eq_nil_of_le (by rw [HM.out]; omega)] at q2
                    rw [List.take_of_length_le (by rw [HM.out]; omega)] at q1
                    exact ⟨q.trans q2, fun _ => q1⟩
                  · exact ⟨q2, fun e => absurd (q2.trans e) q1⟩
                have HGT := hid hte.2
                have e1 := hte.1
                subst e1
                have bza' := (Below.block hx _ (Array.getElem?_eq_some_iff.1 bza).1).trans bza
                have bzb' := (Below.block hx _ (Array.getElem?_eq_some_iff.1 bzb).1).trans bzb
                have bzc' := (Below.block hx _ (Array.getElem?_eq_some_iff.1 bzc).1).trans bzc
                have hx8 := hcx.trans hx
                have HTV2 : Hid (tv = if t = 0 then { h with ws := keepW h l } else ⟨0, 0, []⟩) := by unfold Hid; rw [← HTV.out, ← HTE.out]; rfl
                clear hte HST HTV HTE HP0 hI0 hxW2
                by_cases h0 : t = 0
                · subst h0
                  have hgl := HGT.out rfl
                  subst hgl
                  go_upto_region 34 with fail
                  have hBWc : V8.heap.size ≤ BZ + 1 + 1 := by omega
                  obtain ⟨w9, hw9e⟩ : ∃ w9, wr.drew = w9 := ⟨_, rfl⟩
                  have hw9 : Ext wr w9 := by rw [← hw9e]; exact Ext.drew (Ext.refl _)
                  have bz9 := (Below.block hw9 _ (Array.getElem?_eq_some_iff.1 bzc').1).trans bzc'
                  obtain ⟨W5, hW5⟩ : ∃ W5, (w9.setCell ⟨BZ + 1 + 1, 0, none⟩ (.int .i64 h.mo)).setCell ⟨BZ + 1 + 1, 1, none⟩ (.int .i64 h.pk) = W5 := ⟨_, rfl⟩
                  have k5 : W5.heap[BZ + 1 + 1]? = some (.cells #[.int .i64 h.mo, .int .i64 h.pk, .slice none 0 0] 25 (0, 0)) := by rw [← hW5]; exact heap_setW (heap_setW bz9 _) _
                  have hb5 : Bel (BZ + 1 + 1) w9 W5 := by rw [← hW5]; exact ((Bel.refl _ _).setCell 0 _).setCell 1 _
                  have xV5 : Ext V8 W5 := Ext.then_bel (hx8.trans hw9) hBWc hb5
                  have z5a := hb5.heap ((Below.block hw9 _ (Array.getElem?_eq_some_iff.1 bza').1).trans bza') (by omega)
                  have z5b := hb5.heap ((Below.block hw9 _ (Array.getElem?_eq_some_iff.1 bzb').1).trans bzb') (by omega)
                  have hbW5 : BZ + 1 + 1 < wB.heap.size := (Array.getElem?_eq_some_iff.1 bzc).1
                  have z5g : Brow W5 GB (gonL N l) := hb5.heap ((Brow.ext hbr hw9)) (by omega)
                  obtain ⟨c0, c1, c2⟩ := FH.out w9 (hE2.trans (hB9.trans (hx.trans hw9)))
                  obtain ⟨q0, q1, q2, qf⟩ := house_cells bz9
                  have hneP : ¬ w.heap.size = BZ + 1 + 1 := by
                    have s1 := (hE2.trans h8).size
                    omega
                  have hneQ : ¬ BZ + 1 + 1 = w.heap.size := fun e => hneP e.symm
                  have HW5 := hid hW5
                  clear hW5 bza' bzb' bzc' bza bzb bzc bz9
                  go_region
                  go_upto_region 35 with fail
                  try rw [HW5.out]
                  clear HW5 c0 c1 c2 q0 q1 q2 qf hw9e
                  have HV1 := hid xV5
                  obtain ⟨c0, c1, c2⟩ := FH.out W5 (hE2.trans (h8.trans xV5))
                  have hK0 : ((keepK h l 0).length = 0) := rfl
                  have hg5 : GB < W5.heap.size := z5g.lt
                  have hbz5 : BZ + 1 + 1 < W5.heap.size := (Array.getElem?_eq_some_iff.1 k5).1
                  clear hb5 hw9 hx8 hbr hx hlt hlt' hj HGT
                  go_wp2
                  clear c0 c1 c2
                  go_loopw [170] (fun i wr => ∃ (k n' : Nat) (A' : Option Addr) (c' : Nat), i = .int .i64 (k : Int) ∧ k ≤ N ∧ Hid ((keepK h l k).length = n') ∧ n' ≤ k ∧ wr.heap[BZ + 1 + 1]? = some (.cells #[.int .i64 h.mo, .int .i64 h.pk, .slice A' n' c'] 25 (0, 0)) ∧ wr.ownsRow W5.heap.size 55 5 (.slice A' n' c') n' (layWg.rows (keepK h l k)) ∧ Bel (BZ + 1 + 1) W5 wr) (fun i _ => N - (intOf i).toNat)
                  case atStart => exact ⟨0, 0, none, 0, rfl, Nat.zero_le _, hK0, Nat.le_refl _, k5, own_nil _ _ _ _, Bel.refl _ _⟩
                  case round =>
                    obtain ⟨k, n', A', c', rfl, hk, HKL, hnk, hbh, ho, hbl⟩ := hrel
                    have hxV : Ext V8 wr := Ext.then_bel xV5 hBWc hbl
                    by_cases hlt : k < N
                    · have hlt' : (k : Int) < (N : Int) := by omega
                      obtain ⟨x, hx⟩ := get_of_lt h.ws k (by rw [HN.out]; exact hlt)
                      obtain ⟨b3, off, hAx, e0, e1, e2, e3, e4⟩ := Wgs.at_ (HAW.out wr (hE2.trans (h8.trans hxV))) hx
                      subst hAx
                      have HXX : Hid (wgAt h k = x) := by unfold Hid wgAt; rw [List.getD_eq_getElem?_getD, hx]; rfl
                      clear hx
                      go_upto_region 38 with fail
                      obtain ⟨W7, hW7⟩ : ∃ W7, wr.alloc (.cells #[.int .i64 x.mo, .int .i64 x.sl, .int .i64 x.sh, .int .i64 x.ml, .int .i64 x.mh] 55) = W7 := ⟨_, rfl⟩
                      have hx7 : Ext wr W7 := by rw [← hW7]; exact (Ext.refl _).alloc _
                      have hp7 : W7.heap[wr.heap.size]? = some (.cells #[.int .i64 x.mo, .int .i64 x.sl, .int .i64 x.sh, .int .i64 x.ml, .int .i64 x.mh] 55 (0, 0)) := by rw [← hW7]; exact heap_alloc_new _ _
                      try rw [hW7]
                      clear hW7 e0 e1 e2 e3 e4
                      have hlr := hbl.size
                      have hz7 := hx7.size
                      have hbr7 : Brow W7 GB (gonL N l) := Brow.ext (hbl.heap z5g (by omega)) hx7
                      have hcell := hbr7.at_ (gonL_get l hlt)
                      have hbh7 := (Below.block hx7 _ (by omega)).trans hbh
                      have ho7 := own_below ho hx7
                      have hbl7 := hbl.trans (Ext.bel hx7)
                      obtain hin | hin : memI (k : Int) l = true ∨ memI (k : Int) l = false := by cases memI (k : Int) l <;> simp
                      · rw [hin] at hcell
                        have HNX : Hid (keepK h l (k + 1) = keepK h l k) := by unfold Hid; rw [keepK_next, hin]; simp
                        clear hin hp7 hbh ho hbl hbr7
                        go_wp2
                        go_roundw
                        case rel => exact ⟨k + 1, n', A', c', by go_num, by omega, by unfold Hid; rw [HNX.out]; exact HKL.out, by omega, hbh7, by rw [HNX.out]; exact ho7, hbl7⟩
                        case measure => exact meas_lt hlt
                      · rw [hin] at hcell
                        have HNX : Hid (keepK h l (k + 1) = keepK h l k ++ [x]) := by unfold Hid; rw [keepK_next, hin, HXX.out]; simp
                        obtain ⟨q0, q1, q2, q3, q4⟩ := (blk5_cells hp7).1
                        obtain ⟨c0, c1, c2, fz⟩ := house_cells hbh7
                        clear hin hp7 hbh ho hbl hbr7
                        go_wp2_with (at_builtin; refine wpList_append_rd2 _ rfl _ _ 23 rfl elem_wg W5.heap.size _ n' (layWg.rows (keepK h l k)) rfl (own_below ho7 (Ext.alloc (Ext.refl _) _)) (some ⟨W7.heap.size, 0, none⟩) 1 1 (layWg.cells x) rfl rfl (rd_blk2 (heap_alloc_new W7 _)) (layWg.one x) (by omega) (by simp; omega) ?_)
                        intro A5 c5 w8 own8 bel8 gr8 at8
                        obtain ⟨W8, hW8⟩ : ∃ W8, W7.alloc (.cells (layWg.cells x).toArray 55) = W8 := ⟨_, rfl⟩
                        have hx8 : Ext W7 W8 := by rw [← hW8]; exact Ext.alloc (Ext.refl _) _
                        have gr8' : W8.grownBy w8 (Value.slice A' n' c').ownBlock := by rw [← hW8]; exact gr8
                        have hS8 : BelS (fun j => (Value.slice A' n' c').ownBlock = some j) W8 w8 := (BelS.refl _ W8).grown gr8' (fun k e => e)
                        have hne : Hid (∀ j, (Value.slice A' n' c').ownBlock = some j → W5.heap.size ≤ j) := fun j hj => (ho7.lt j hj).1
                        have hbl8 : Bel (BZ + 1 + 1) W5 w8 := (hbl7.trans (Ext.bel hx8)).then_ hS8 (fun i hi hs => by have := hne.out i hs; omega)
                        have hbh8 : w8.heap[BZ + 1 + 1]? = some (.cells #[.int .i64 h.mo, .int .i64 h.pk, .slice A' n' c'] 25 (0, 0)) := hS8.heap ((Below.block hx8 _ (by omega)).trans hbh7) (fun e => by have := hne.out _ e; omega)
                        rw [← layWg.rows_single, ← layWg.rows_app, ← HNX.out] at own8
                        have HO8 := hid own8
                        have r1 : Hid ((keepK h l (k + 1)).length = n' + 1) := by unfold Hid; rw [HNX.out, List.length_append, HKL.out]; rfl
                        obtain ⟨wF, hwF⟩ : ∃ W, w8.setCell ⟨BZ + 1 + 1, 2, none⟩ (.slice A5 (n' + 1) c5) = W := ⟨_, rfl⟩
                        have r2 : wF.heap[BZ + 1 + 1]? = some (.cells #[.int .i64 h.mo, .int .i64 h.pk, .slice A5 (n' + 1) c5] 25 (0, 0)) := by rw [← hwF]; exact heap_setW hbh8 _
                        have r3 : wF.ownsRow W5.heap.size 55 5 (.slice A5 (n' + 1) c5) (n' + 1) (layWg.rows (keepK h l (k + 1))) := by
                          rw [← hwF]
                          exact ((Bel.refl (BZ + 1 + 1) w8).setCell 2 _).own HO8.out (fun g hg => by have := (HO8.out.lt g hg).1; omega)
                        have r4 : Bel (BZ + 1 + 1) W5 wF := by rw [← hwF]; exact hbl8.setCell 2 _
                        have RF := hid (And.intro r2 (And.intro r3 r4))
                        have HWF := hid hwF
                        clear own8 gr8 gr8' at8 bel8 hW8 c0 c1 c2 fz r2 r3 r4 hwF
                        obtain ⟨c0, c1, c2, fz⟩ := house_cells hbh8
                        go_wp2
                        try rw [HWF.out]
                        go_roundw
                        case rel => exact ⟨k + 1, n' + 1, A5, c5, by go_num, by omega, r1, by omega, RF.out.1, RF.out.2.1, RF.out.2.2⟩
                        case measure => exact meas_lt hlt
                    · have hlt' : ¬ (k : Int) < (N : Int) := by omega
                      obtain rfl : k = N := by omega
                      have hV2 : tv = { h with ws := keepK h l k } := by
                        have q := HTV2.out
                        first | rw [if_pos rfl] at q | rw [if_pos trivial] at q
                        rw [q, ← HN.out]; rfl
                      have hPn : P = n' := by rw [← HP.out, hV2]; exact HKL.out
                      have r1 := hbl.heap z5a (by omega)
                      have r2 := hbl.heap z5b (by omega)
                      have HF := hid (And.intro r1 (And.intro r2 (And.intro hbh (And.intro (Rd.of_own ho) (And.intro (own_cap2 ho) hxV)))))
                      clear r1 r2 hbh ho hbl hxV HTV2 HP HKL
                      subst hPn
                      subst hV2
                      go_wp2_with fail
                      go_meet
                      exact ⟨rfl, rfl, rfl, rfl, HF.out.1, HF.out.2.1, ⟨A', c', HF.out.2.2.1, HF.out.2.2.2.1, HF.out.2.2.2.2.1⟩, HF.out.2.2.2.2.2⟩
                · have h0b : (t == 0) = false := by simp [h0]
                  have f4 : tv = ⟨0, 0, []⟩ := by rw [HTV2.out, if_neg h0]
                  have f5 : P = 0 := by rw [← HP.out, f4]; rfl
                  have HF := hid (And.intro bza' (And.intro bzb' (And.intro bzc' hx8)))
                  clear bza' bzb' bzc' hx8 HTV2 HP HO8 HBT
                  subst f5
                  subst f4
                  go_wp2_with fail
                  go_meet
                  exact ⟨rfl, rfl, rfl, rfl, HF.out.1, HF.out.2.1, ⟨none, 0, HF.out.2.2.1, Rows.nil _ _ _, Nat.le_refl _⟩, HF.out.2.2.2⟩
  case rest =>
    as_aux_lemma =>
     obtain ⟨rfl, rfl, rfl, rfl, hz1, hz2, ⟨A9, c9, hz3, hrw9, hcp9⟩, hcx⟩ := hcut
     obtain ⟨wA, hwA⟩ : ∃ x : World, x = wc := ⟨_, rfl⟩
     subst hwA
     have hA9 := h8.trans hcx
     have b1 := (Below.block hcx _ (Array.getElem?_eq_some_iff.1 HBL.out).1).trans HBL.out
     have b2 := (Below.block hcx _ (Array.getElem?_eq_some_iff.1 HBG.out).1).trans HBG.out
     have b3 := (Below.block hcx _ (Array.getElem?_eq_some_iff.1 HBT.out).1).trans HBT.out
     have o8 := own_below HO8.out hcx
     have hT8 : HsR wA (.agg #[.int .i64 tv.mo, .int .i64 tv.pk, .slice A8 P c8]) tv := ⟨A8, c8, by unfold hval; rw [HP.out], Rd.of_own o8, by rw [HP.out]; exact own_cap2 o8⟩
     have hT9 : HsR wA (.agg #[.int .i64 tv.mo, .int .i64 tv.pk, .slice A9 P c9]) tv := ⟨A9, c9, by unfold hval; rw [HP.out], hrw9, by rw [HP.out]; exact hcp9⟩
     have hsz : tv.sized := by
       unfold Hs.sized
       rw [← HTV.out]
       unfold wthV
       split
       · show (keepW h l).length ≤ _
         have q := keepK_len h l h.ws.length
         rw [keepK_all, HN.out] at q
         omega
       · simp
     have KS := hid (same_yes _ _ tv wA hT8 hT9 hsz)
     obtain ⟨p0, p1, -⟩ := rat_cells b1
     obtain ⟨p2, p3, -⟩ := rat_cells b2
     obtain ⟨p4, p5, -⟩ := rat_cells hz1
     obtain ⟨p6, p7, -⟩ := rat_cells hz2
     obtain ⟨p8, p9, pa, -⟩ := house_cells b3
     obtain ⟨pb, pc, pd, -⟩ := house_cells hz3
     have y1 := fun w => run_ne_rt w lo.1 lo.2
     have y2 := fun w => run_ne_rt w gr.1 gr.2
     have HO9 := hid o8
     have HB3 := hid b3
     clear HLO HGR HWE HUV HUE HTV HTE HP HBL HBG HBT HO8 b1 b2 b3 hz1 hz2 hz3 hrw9 hcp9 o8 hT8 hT9 hsz bza bzb bzc xQ9
     go_wp2_with fail
     refine KS.out.mono ?_
     rintro e X1 ⟨rfl, hy1⟩
     clear KS p0 p1 p2 p3 p4 p5 p6 p7 p8 p9 pa pb pc pd y1 y2
     have b3 := (Below.block hy1 _ (Array.getElem?_eq_some_iff.1 HB3.out).1).trans HB3.out
     have oX := own_below HO9.out hy1
     have hxX : Ext V6 X1 := hx68.trans (hcx.trans hy1)
     obtain ⟨X2, hcl, hX2, -⟩ := clear_wg oX hxX (Nat.le_refl _)
     obtain ⟨pa0, pa1, pa, -⟩ := house_cells b3
     go_upto_region 44 with fail
     clear hcl pa0 pa1 pa
     have hX := h6.trans hX2
     have KS2 := hid (same_yes _ _ h X2 (HO.out X2 hX) (HR.out X2 (hE2.trans hX)) HS.out)
     obtain ⟨⟨a0, a1, a2⟩, d0, d1, d2⟩ := F5.out X2 hX
     obtain ⟨c0, c1, c2⟩ := FH.out X2 (hE2.trans hX)
     go_wp2_with fail
     refine KS2.out.mono ?_
     rintro e X3 ⟨rfl, hy3⟩
     clear KS2 a0 a1 a2 d0 d1 d2 c0 c1 c2
     have hX3 := hX.trans hy3
     have KI := eq_int (some ⟨g6, 0, none⟩) Ar k6 cr l l X3 (HMI.out X3 hX3) (HA.out X3 (hE2.trans hX3)) (by rw [HM.out]; omega) (by rw [HM.out]; omega)
     rw [HM.out, beq_self_eq_true] at KI
     have KI := hid KI
     go_wp2_with fail
     refine KI.out.mono ?_
     rintro e X4 ⟨rfl, hy4⟩
     clear KI
     go_wp2_with fail
     refine (awake_any _).mono ?_
     rintro e wq ⟨rfl, hxq⟩
     go_wp2
     go_ret
     exact ⟨rfl, hxV.trans (hX3.trans (hy4.trans hxq))⟩
end Go.Proofs.Ytjnobdcbbboeeaa
