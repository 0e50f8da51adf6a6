/- The walk of BoilFewest. Printed by my gen_bfws.py. -/
import Derived.Test.YtjnobdcbbboeeaaBFwA
import Derived.Test.YtjnobdcbbboeeaaBTrs
import Derived.Test.YtjnobdcbbboeeaaBRf5
import Derived.Test.YtjnobdcbbboeeaaHa
import Derived.Deep.DeepCutAuto
import Derived.Deep.CutBlock
import Derived.Deep.QuietTactic
import Derived.BigQuiet
import Derived.OwnWalk
namespace Go.Proofs.Ytjnobdcbbboeeaa
open Go Go.RowKit Go.Shelf
set_option linter.unusedVariables false
set_option linter.unusedSimpArgs false

set_option maxRecDepth 100000 in
set_option maxHeartbeats 8000000 in
theorem boilfewest_any (v : Value) (h : Hs) (Ar : Option Addr) (cr : Nat) (l : List (Int × Int)) (w : World) (hr : HsR w v h) (hs : h.sized) (hA : Prs w Ar l) (hl : l.length ≤ 9223372036854775807) :
    Calls Try.prog 7 #[v, .slice Ar l.length cr] w fun e w' => e = .returned (.bool true) ∧ Below w.heap.size w w' := by
  obtain ⟨A, c, rfl, hrw, hcap⟩ := hr
  obtain ⟨N, hN⟩ : ∃ N : Nat, h.ws.length = N := ⟨_, rfl⟩
  have HN := hid hN
  unfold hval
  rw [hN]
  obtain ⟨W0, hW0⟩ : ∃ W0, w.alloc (.cells #[.int .i64 h.mo, .int .i64 h.pk, .slice A N c] 25) = W0 := ⟨_, rfl⟩
  have hx0 : Ext w W0 := by rw [← hW0]; exact Ext.alloc (Ext.refl w) _
  have b0 : W0.heap[w.heap.size]? = some (.cells #[.int .i64 h.mo, .int .i64 h.pk, .slice A N c] 25 (0, 0)) := by rw [← hW0]; exact heap_alloc_new w _
  have FH : Hid (∀ w', Ext W0 w' → w'.cell? ⟨w.heap.size, 0, none⟩ = some (.int .i64 h.mo) ∧ w'.cell? ⟨w.heap.size, 1, none⟩ = some (.int .i64 h.pk) ∧ w'.cell? ⟨w.heap.size, 2, none⟩ = some (.slice A N c)) := fun w' hx => by
    obtain ⟨q0, q1, q2, -⟩ := house_cells b0
    exact ⟨hx.cell q0, hx.cell q1, hx.cell q2⟩
  have HR : Hid (∀ w', Ext W0 w' → HsR w' (.agg #[.int .i64 h.mo, .int .i64 h.pk, .slice A N c]) h) := fun w' hx => ⟨A, c, by unfold hval; rw [hN], Rows.ext hrw (hx0.trans hx), hcap⟩
  have HS := hid hs
  have HW0 := hid hW0
  clear hW0 b0 hrw hcap hN
  have HA : Hid (∀ w', Ext W0 w' → Prs w' Ar l) := fun w' hx => Rows.ext hA (hx0.trans hx)
  obtain ⟨M, hM⟩ : ∃ M : Nat, l.length = M := ⟨_, rfl⟩
  have HM := hid hM
  rw [hM] at hl ⊢
  clear hM hA hs
  have KG := hid (great_any _ h W0 (HR.out W0 (Ext.refl _)))
  rw [HN.out] at KG
  go_enter Try.func7, Try.ntmps7
  go_upto_region 1 with fail
  rw [HW0.out]
  clear HW0
  obtain ⟨c0, c1, c2⟩ := FH.out W0 (Ext.refl _)
  go_wp2_with fail
  refine KG.out.mono ?_
  rintro e w1 ⟨rfl, hx1⟩
  clear KG c0 c1 c2
  by_cases hg : 20 < N
  · have hgd : decide (20 < N) = true := decide_eq_true hg
    rw [hgd]
    clear hgd
    go_wp2_with fail
    refine (awake_any _).mono ?_
    rintro e wq ⟨rfl, hxq⟩
    go_wp2
    go_ret
    exact ⟨rfl, hx0.trans (hx1.trans hxq)⟩
  have hgd : decide (20 < N) = false := decide_eq_false hg
  rw [hgd]
  clear hgd
  have KW := wide_any _ h 9 w1 (HR.out w1 hx1)
  rw [show ((9 : Nat) : Int) = 9 from rfl] at KW
  rw [HN.out] at KW
  obtain ⟨Wd, hWd⟩ : ∃ b, (decide (9 < N) && decide (N ≤ 14)) = b := ⟨_, rfl⟩
  rw [hWd] at KW
  have KW := hid KW
  clear hWd
  obtain ⟨c0, c1, c2⟩ := FH.out w1 hx1
  go_wp2_with fail
  refine KW.out.mono ?_
  rintro e w1b ⟨rfl, hx1b⟩
  clear KW c0 c1 c2
  have hx1c := hx1.trans hx1b
  obtain hWd | hWd : Wd = true ∨ Wd = false := by cases Wd <;> simp
  · subst hWd
    go_wp2_with fail
    refine (awake_any _).mono ?_
    rintro e wq ⟨rfl, hxq⟩
    go_wp2
    go_ret
    exact ⟨rfl, hx0.trans (hx1c.trans hxq)⟩
  subst hWd
  by_cases hg2 : 20 < M
  · have hg2' : (M : Int) > 20 := by omega
    go_wp2_with fail
    refine (awake_any _).mono ?_
    rintro e wq ⟨rfl, hxq⟩
    go_wp2
    go_ret
    exact ⟨rfl, hx0.trans (hx1c.trans hxq)⟩
  have hg2' : ¬ (M : Int) > 20 := by omega
  go_upto_region 3 with fail
  have hn20 : N ≤ 20 := by omega
  have hm20 : M ≤ 20 := by omega
  have hx01 := hx1c
  clear hg hg2 hg2' hl
  refine wp_region_shut_tail Ext (fun w' => Ext W0 w') (fun
    | 1 => some (fun v w' => ∃ g k, v = .agg #[.int .i64 h.mo, .int .i64 h.pk, .slice (some ⟨g, 0, none⟩) N k] ∧ w'.ownsRow W0.heap.size 55 5 (.slice (some ⟨g, 0, none⟩) N k) N (layWg.rows h.ws))
    | 3 => some (fun v w' => ∃ g k, v = .slice (some ⟨g, 0, none⟩) M k ∧ w'.ownsRow W0.heap.size 36 2 (.slice (some ⟨g, 0, none⟩) M k) M (layPr.rows l))
    | 5 => some (fun v w' => ∃ A2 k, v = .agg #[.int .i64 h.mo, .int .i64 h.pk, .slice A2 N k] ∧ w'.ownsRow W0.heap.size 92 5 (.slice A2 N k) N (layWg.rows h.ws))
    | 6 => some (fun v w' => ∃ b, v = .pointer (some ⟨b, 0, none⟩) ∧ W0.heap.size ≤ b ∧ w'.heap[b]? = some (.cells #[.int .i64 0, .int .i64 0, .slice none 0 0] 25 (0, 0)))
    | 7 => some (fun v w' => ∃ b, v = .pointer (some ⟨b, 0, none⟩) ∧ W0.heap.size ≤ b ∧ w'.heap[b]? = some (.cells #[.int .i64 0, .int .i64 0, .slice none 0 0] 75 (0, 0)))
    | _ => none) 8 (by kernel_rfl) (by kernel_rfl) (fun _ _ h k => h.trans k) ?hTt (hx01.trans (Ext.drew (Ext.refl _))) ?_
  case hTt =>
    intro i R hR
    match i, hR with
    | 1, hR => cases hR; exact fun v _ _ h hx => by obtain ⟨g, k, e, ho⟩ := h; exact ⟨g, k, e, own_below ho hx⟩
    | 3, hR => cases hR; exact fun v _ _ h hx => by obtain ⟨g, k, e, ho⟩ := h; exact ⟨g, k, e, own_below ho hx⟩
    | 5, hR => cases hR; exact fun v _ _ h hx => by obtain ⟨g, k, e, ho⟩ := h; exact ⟨g, k, e, own_below ho hx⟩
    | 6, hR => cases hR; exact fun v _ _ h hx => by obtain ⟨b, e, hz, hb⟩ := h; exact ⟨b, e, hz, (Below.block hx _ (Array.getElem?_eq_some_iff.1 hb).1).trans hb⟩
    | 7, hR => cases hR; exact fun v _ _ h hx => by obtain ⟨b, e, hz, hb⟩ := h; exact ⟨b, e, hz, (Below.block hx _ (Array.getElem?_eq_some_iff.1 hb).1).trans hb⟩
  refine wM_val ?ut0 rfl rfl Ext.refl (fun w' hD => ?ht0) (fun pht0 => ?nt0)
  case ht0 =>
    obtain ⟨c0, c1, c2⟩ := FH.out w' hD.1
    go_simp; rfl
  simp only [Act.put, List.setIfInBounds_toArray, List.set_cons_succ, List.set_cons_zero, Nat.reduceAdd]
  refine wM_op _ rfl rfl (opens_call ?ft1 ?gt1 (fun w' hD => ?ht1) (fun w' hD => ?ct1)) (fun v1 hv1 => ?nt1)
  case ht1 => go_simp; constructor <;> rfl
  case ct1 =>
    have K := lown_any _ h w' (HR.out w' hD.1) (by rw [HN.out]; omega)
    unfold hval at K
    rw [HN.out] at K
    refine K.mono ?_
    rintro e w2 ⟨g, k, rfl, ho, hb⟩
    exact ⟨_, rfl, hb, g, k, rfl, own_base ho hD.1.size⟩
  obtain ⟨_, -, -, g5, k5, rfl, -⟩ := hv1
  simp only [Act.put, List.setIfInBounds_toArray, List.set_cons_succ, List.set_cons_zero, Nat.reduceAdd]
  refine wM_val ?ut2 rfl rfl Ext.refl (fun w' hD => ?ht2) (fun pht2 => ?nt2)
  case ht2 =>
    obtain ⟨c0, c1, c2⟩ := FH.out w' hD.1
    go_simp; rfl
  simp only [Act.put, List.setIfInBounds_toArray, List.set_cons_succ, List.set_cons_zero, Nat.reduceAdd]
  refine wM_op _ rfl rfl (opens_call ?ft3 ?gt3 (fun w' hD => ?ht3) (fun w' hD => ?ct3)) (fun v3 hv3 => ?nt3)
  case ht3 => go_simp; constructor <;> rfl
  case ct3 =>
    have K := ldup_bp Ar cr l w' (HA.out w' hD.1) (by rw [HM.out]; omega)
    rw [HM.out] at K
    refine K.mono ?_
    rintro e w2 ⟨g, k, rfl, ho, hb⟩
    exact ⟨_, rfl, hb, g, k, rfl, own_base ho hD.1.size⟩
  obtain ⟨_, -, -, g6, k6, rfl, -⟩ := hv3
  simp only [Act.put, List.setIfInBounds_toArray, List.set_cons_succ, List.set_cons_zero, Nat.reduceAdd]
  refine wM_val ?ut4 rfl rfl Ext.refl (fun w' hD => ?ht4) (fun pht4 => ?nt4)
  case ht4 =>
    obtain ⟨c0, c1, c2⟩ := FH.out w' hD.1
    go_simp; rfl
  simp only [Act.put, List.setIfInBounds_toArray, List.set_cons_succ, List.set_cons_zero, Nat.reduceAdd]
  refine wM_op _ rfl rfl (opens_call ?ft5 ?gt5 (fun w' hD => ?ht5) (fun w' hD => ?ct5)) (fun v5 hv5 => ?nt5)
  case ht5 => go_simp; constructor <;> rfl
  case ct5 =>
    have K := theirs_any _ h w' (HR.out w' hD.1) (by rw [HN.out]; omega)
    unfold hval at K
    rw [HN.out] at K
    refine K.mono ?_
    rintro e w2 ⟨A2, k, rfl, ho, hb⟩
    exact ⟨_, rfl, hb, A2, k, rfl, own_base ho hD.1.size⟩
  obtain ⟨_, -, -, A7, k7, rfl, -⟩ := hv5
  simp only [Act.put, List.setIfInBounds_toArray, List.set_cons_succ, List.set_cons_zero, Nat.reduceAdd]
  refine wM_op _ rfl rfl (opens_val (fun w' hD => ?hbt6)) (fun v6 hv6 => ?nbt6)
  case hbt6 =>
    refine ⟨.pointer (some ⟨w'.heap.size, 0, none⟩), w'.alloc (.cells #[.int .i64 0, .int .i64 0, .slice none 0 0] 25), ?_, Ext.alloc (Ext.refl _) _, _, rfl, hD.1.size, heap_alloc_new _ _⟩
    go_simp
  obtain ⟨_, -, -, b6, rfl, hzb6, -⟩ := hv6
  simp only [Act.put, List.setIfInBounds_toArray, List.set_cons_succ, List.set_cons_zero, Nat.reduceAdd]
  refine wM_op _ rfl rfl (opens_val (fun w' hD => ?hbt7)) (fun v7 hv7 => ?nbt7)
  case hbt7 =>
    refine ⟨.pointer (some ⟨w'.heap.size, 0, none⟩), w'.alloc (.cells #[.int .i64 0, .int .i64 0, .slice none 0 0] 75), ?_, Ext.alloc (Ext.refl _) _, _, rfl, hD.1.size, heap_alloc_new _ _⟩
    go_simp
  obtain ⟨_, -, -, b7, rfl, hzb7, -⟩ := hv7
  simp only [Act.put, List.setIfInBounds_toArray, List.set_cons_succ, List.set_cons_zero, Nat.reduceAdd]
  refine wM_nil ?_
  intro w9 hw9 hF9
  obtain ⟨-, g5', k5', e5, ho5⟩ := hF9 1
  cases e5
  obtain ⟨-, g6', k6', e6, ho6⟩ := hF9 3
  cases e6
  obtain ⟨-, A7', k7', e7, ho7⟩ := hF9 5
  cases e7
  obtain ⟨-, b6', e6, hz6, hb6⟩ := hF9 6
  cases e6
  obtain ⟨-, b7', e7, hz7, hb7⟩ := hF9 7
  cases e7
  clear hF9
  simp only [List.drop_succ_cons, List.drop_zero]
  have hne67 : ¬ b7 = b6 := fun e => by
    rw [e, hb6] at hb7
    injection hb7 with q
    injection q with _ q2 _
    exact absurd q2 (by decide)
  obtain ⟨u0, u1, u2, fu⟩ := house_cells hb6
  obtain ⟨y0, y1, y2, fy⟩ := house_cells hb7
  obtain ⟨V1, hV1, q1, q2⟩ := put_house2 (v0 := .int .i64 h.mo) (v1 := .int .i64 h.pk) (v2 := .slice (some ⟨g5, 0, none⟩) N k5) hb6
  have hb71 := q2.heap hb7 hne67
  obtain ⟨V2, hV2, q3, q4⟩ := put_house2 (v0 := .int .i64 h.mo) (v1 := .int .i64 h.pk) (v2 := .slice A7 N k7) hb71
  obtain ⟨y3, y4, y5, fy2⟩ := house_cells hb71
  have q5 := q4.heap q1 (fun e => hne67 e.symm)
  have hE2 : Ext W0 V2 := (((Ext.belS (S := fun j => W0.heap.size ≤ j) hw9).trans (q2.mono fun k _ hk => by subst hk; exact hz6)).trans (q4.mono fun k _ hk => by subst hk; exact hz7)).ext (fun k hk hS => by omega)
  have o5 := q4.own (q2.own ho5 (fun j hj e => own_neC ho5 hb6 (by decide) (by rw [hj, e]))) (fun j hj e => own_neC ho5 hb7 (by decide) (by rw [hj, e]))
  have o6 := q4.own (q2.own ho6 (fun j hj e => own_neC ho6 hb6 (by decide) (by rw [hj, e]))) (fun j hj e => own_neC ho6 hb7 (by decide) (by rw [hj, e]))
  have o7 := q4.own (q2.own ho7 (fun j hj e => own_neC ho7 hb6 (by decide) (by rw [hj, e]))) (fun j hj e => own_neC ho7 hb7 (by decide) (by rw [hj, e]))
  have F5 : Hid (∀ w', Ext V2 w' → (w'.cell? ⟨b6, 0, none⟩ = some (.int .i64 h.mo) ∧ w'.cell? ⟨b6, 1, none⟩ = some (.int .i64 h.pk) ∧ w'.cell? ⟨b6, 2, none⟩ = some (.slice (some ⟨g5, 0, none⟩) N k5)) ∧ w'.cell? ⟨b7, 0, none⟩ = some (.int .i64 h.mo) ∧ w'.cell? ⟨b7, 1, none⟩ = some (.int .i64 h.pk) ∧ w'.cell? ⟨b7, 2, none⟩ = some (.slice A7 N k7)) := fun w' hx => by
    obtain ⟨a0, a1, a2, -⟩ := house_cells q5
    obtain ⟨d0, d1, d2, -⟩ := house_cells q3
    exact ⟨⟨hx.cell a0, hx.cell a1, hx.cell a2⟩, hx.cell d0, hx.cell d1, hx.cell d2⟩
  have HO : Hid (∀ w', Ext V2 w' → HsR w' (.agg #[.int .i64 h.mo, .int .i64 h.pk, .slice (some ⟨g5, 0, none⟩) N k5]) h) := fun w' hx => ⟨_, k5, by unfold hval; rw [HN.out], Rd.of_own (own_below o5 hx), by rw [HN.out]; exact own_cap2 o5⟩
  have HX : Hid (∀ w', Ext V2 w' → HsR w' (.agg #[.int .i64 h.mo, .int .i64 h.pk, .slice A7 N k7]) h) := fun w' hx => ⟨_, k7, by unfold hval; rw [HN.out], Rd.of_own (own_below o7 hx), by rw [HN.out]; exact own_cap2 o7⟩
  have HV1 := hid hV1
  have HV2 := hid hV2
  have hxV := hx0.trans hE2
  have HMI : Hid (∀ w', Ext V2 w' → Prs w' (some ⟨g6, 0, none⟩) l) := fun w' hx => Rd.of_own (own_below o6 hx)
  clear o6 hV1 hV2 q1 q2 q3 q4 q5 hb6 hb7 hb71 ho5 ho6 ho7 o5 o7 hz6 hz7
  have hne76 : ¬ b6 = b7 := fun e => hne67 e.symm
  have KC := hid (refcheck_any _ h V2 (HX.out V2 (Ext.refl _)) HS.out)
  obtain ⟨R, hR⟩ : ∃ R, checkH h = R := ⟨_, rfl⟩
  rw [hR] at KC
  have HRR := hid hR
  go_upto_region 4 with fail
  rw [HV1.out, HV2.out]
  clear HV1 HV2 hne67 hne76 u0 u1 u2 fu y0 y1 y2 fy y3 y4 y5 fy2 hR
  obtain ⟨⟨a0, a1, a2⟩, d0, d1, d2⟩ := F5.out V2 (Ext.refl _)
  go_wp2_with fail
  refine KC.out.mono ?_
  rintro e V3 ⟨rfl, hx3⟩
  clear KC a0 a1 a2 d0 d1 d2
  obtain ⟨fV, hfV⟩ : ∃ x, fewV h = x := ⟨_, rfl⟩
  obtain ⟨tV, htV⟩ : ∃ x, truV h = x := ⟨_, rfl⟩
  have HFV := hid hfV
  have HTV := hid htV
  have hlf : fV.length ≤ 14 ∨ fV = [] := by
    by_cases e : checkH h = 0
    · left
      have k := checkH_ok e
      have q := few_is k
      rw [← hfV]; unfold fewV; rw [if_neg (by simp [e])]
      rcases q.2.2.1.len with q2 | q2
      · have := k.len; omega
      · rw [q2]; simp
    · right; rw [← hfV]; unfold fewV; rw [if_pos e]
  have hlt : tV.length ≤ 14 ∨ tV = [] := by
    by_cases e : checkH h = 0
    · left
      have k := checkH_ok e
      rw [← htV]; unfold truV; rw [if_neg (by simp [e])]
      exact Nat.le_trans (someW_len _ _) k.len
    · right; rw [← htV]; unfold truV; rw [if_pos e]
  have hlf14 : fV.length ≤ 14 := by rcases hlf with q | q; exact q; rw [q]; simp
  have hlt14 : tV.length ≤ 14 := by rcases hlt with q | q; exact q; rw [q]; simp
  clear hfV htV hlf hlt
  go_upto_region 5 with fail
  go_upto_if 43 with fail
  go_cut [9, 10] (fun s9 s10 wx => ∃ (A1 : Option Addr) (c1 : Nat) (A2 : Option Addr) (c2 : Nat), s9 = .slice A1 fV.length c1 ∧ s10 = .slice A2 tV.length c2 ∧ Ints wx A1 fV ∧ Ints wx A2 tV ∧ Ext V3 wx)
  case first =>
    by_cases h0 : R = 0
    · subst h0
      have k := checkH_ok HRR.out
      have KF := reffewest_any _ h V3 (HX.out V3 hx3) k
      have e1 : fewH h = fV := by rw [← HFV.out]; unfold fewV; rw [if_neg (by simp [HRR.out])]
      have e2 : trustH h = tV := by rw [← HTV.out]; unfold truV; rw [if_neg (by simp [HRR.out])]
      rw [e1, e2] at KF
      have KF := hid KF
      clear k e1 e2
      obtain ⟨⟨a0, a1, a2⟩, d0, d1, d2⟩ := F5.out V3 hx3
      go_wp2_with fail
      refine KF.out.mono ?_
      rintro e V4 ⟨A1, c1, A2, c2, rfl, hx4, hi1, hi2⟩
      clear KF
      go_wp2_with fail
      go_meet
      exact ⟨A1, c1, A2, c2, rfl, rfl, hi1, hi2, hx4⟩
    · have h0b : (R == 0) = false := by simp [h0]
      have e1 : fV = [] := by rw [← HFV.out]; unfold fewV; rw [HRR.out, if_pos h0]
      have e2 : tV = [] := by rw [← HTV.out]; unfold truV; rw [HRR.out, if_pos h0]
      subst e1
      subst e2
      go_wp2_with fail
      go_meet
      exact ⟨none, 0, none, 0, rfl, rfl, .inl rfl, .inl rfl, Ext.refl _⟩
  case rest =>
    obtain ⟨A1, c1, A2, c2', rfl, rfl, hi1, hi2, hcx⟩ := hcut
    have hx3c := hx3.trans hcx
    have HI1 := hid hi1
    have HI2 := hid hi2
    clear hcx hi1 hi2
    have KF := fewest_any _ h wc (HO.out wc hx3c) HS.out
    rw [HFV.out, show fewE h = R from HRR.out] at KF
    have KF := hid KF
    obtain ⟨⟨a0, a1, a2⟩, d0, d1, d2⟩ := F5.out wc hx3c
    go_wp2_with fail
    refine KF.out.mono ?_
    rintro e V5 ⟨A3, c3, rfl, hx5, hi3⟩
    clear KF a0 a1 a2 d0 d1 d2
    have h5 := hx3c.trans hx5
    have KT := trusted_any _ h V5 (HO.out V5 h5) HS.out
    rw [HTV.out, show fewE h = R from HRR.out] at KT
    have KT := hid KT
    obtain ⟨⟨a0, a1, a2⟩, d0, d1, d2⟩ := F5.out V5 h5
    go_wp2_with fail
    refine KT.out.mono ?_
    rintro e V6 ⟨A4, c4, rfl, hx6, hi4⟩
    clear KT a0 a1 a2 d0 d1 d2
    have h6 := h5.trans hx6
    have KP := hid (proofx_any _ h V6 (HO.out V6 h6) HS.out)
    obtain ⟨⟨a0, a1, a2⟩, d0, d1, d2⟩ := F5.out V6 h6
    go_wp2_with fail
    refine KP.out.mono ?_
    rintro e V7 ⟨A8, c8, pr, rfl, hx7, hpr, hpn, hpo⟩
    rw [HRR.out]
    rw [HRR.out] at hpn hpo
    clear KP a0 a1 a2 d0 d1 d2
    have h7 := h6.trans hx7
    have K1 := eq_int A3 A1 c3 c1 fV fV V7 (Rd.ext hi3 (hx6.trans hx7)) (Rd.ext HI1.out (hx5.trans (hx6.trans hx7))) (by omega) (by omega)
    rw [beq_self_eq_true] at K1
    have K1 := hid K1
    have K2 : Hid (∀ w', Ext V7 w' → Calls Try.prog 32 #[.slice A4 tV.length c4, .slice A2 tV.length c2'] w' fun e w2 => e = .returned (.bool true) ∧ Ext w' w2) := fun w' hw => by
      have q := eq_int A4 A2 c4 c2' tV tV w' (Rd.ext hi4 (hx7.trans hw)) (Rd.ext HI2.out (hx5.trans (hx6.trans (hx7.trans hw)))) (by omega) (by omega)
      rw [beq_self_eq_true] at q
      exact q
    have HPR : Hid (∀ w', Ext V7 w' → Prs w' A8 pr) := fun w' hw => Rows.ext hpr hw
    obtain ⟨P, hP⟩ : ∃ P : Nat, pr.length = P := ⟨_, rfl⟩
    have HP := hid hP
    rw [hP]
    have HPN := hid hpn
    have HPO := hid hpo
    clear hi3 hi4 hpr hpn hpo hP
    go_upto_region 11 with fail
    go_wp2_with fail
    refine K1.out.mono ?_
    rintro e V8 ⟨rfl, hx8⟩
    clear K1
    go_wp2_with fail
    refine (K2.out V8 hx8).mono ?_
    rintro e V9 ⟨rfl, hx9⟩
    clear K2
    have hx79 := hx8.trans hx9
    have h9 := h7.trans hx79
    by_cases h0 : R = 0
    · subst h0
      obtain ⟨hps, hgood⟩ := HPO.out (by first | rfl | trivial)
      have k := checkH_ok HRR.out
      have hfl : fV.length = P := by
        rw [← HFV.out, ← HP.out, hps]; unfold fewV; rw [if_neg (by simp [HRR.out])]
        exact (few_is k).2.2.2.2.1
      have hP14 : P ≤ 14 := by omega
      have HPA : Hid (∀ w', Ext V9 w' → Prs w' A8 pr) := fun w' hw => HPR.out w' (hx79.trans hw)
      have KPA : Hid (∀ w', Ext V9 w' → Calls Try.prog 41 #[.slice A8 P c8] w' fun e w2 => ∃ A' c', e = .returned (.slice A' P c') ∧ w2.ownsRow w'.heap.size 150 2 (.slice A' P c') P (layPr.rows pr) ∧ Ext w' w2) := fun w' hw => by
        have q := paired_any A8 c8 pr w' (HPA.out w' hw) (by rw [HP.out]; omega)
        rw [HP.out] at q; exact q
      have KRP : Hid (∀ A' k' w', Ext V9 w' → Prs w' A' pr → Calls Try.prog 40 #[.agg #[.int .i64 h.mo, .int .i64 h.pk, .slice A7 N k7], .slice A' P k'] w' fun e w2 => e = .returned (.tuple #[.int .i64 (P : Int), .int .i64 0]) ∧ Ext w' w2) := fun A' k' w' hw hp => by
        have q := refproves_any _ h A' k' pr w' (HX.out w' (h9.trans hw)) HS.out hp (by rw [HP.out]; omega)
        rw [HP.out, hgood.ok.1, hgood.ok.2, HP.out] at q; exact q
      have HASC : Hid (∀ i, 1 ≤ i → ∀ p q, pr[i - 1]? = some p → pr[i]? = some q → p.1 < q.1) := hgood.asc
      have HFL := hid hfl
      clear hgood hps k hfl HPO HPN
      go_upto_region 14 with fail
      refine wp_region_shut Ext (fun w' => Ext V9 w') (fun
        | 2 => some (fun v w' => ∃ A2 k, v = .slice A2 P k ∧ Prs w' A2 pr)
        | 3 => some (fun v _ => v = .tuple #[.int .i64 (P : Int), .int .i64 0])
        | _ => none) (by kernel_rfl) (by kernel_rfl) (fun _ _ h k => h.trans k) ?hTp (Ext.drew (Ext.refl V9)) ?_
      case hTp =>
        intro i R hR
        match i, hR with
        | 2, hR => cases hR; exact fun v _ _ h hx => by obtain ⟨A2, k, e, ho⟩ := h; exact ⟨A2, k, e, Rows.ext ho hx⟩
        | 3, hR => cases hR; exact fun _ _ _ h _ => h
      refine wM_val ?up0 rfl rfl Ext.refl (fun w' hD => ?hp0) (fun php0 => ?np0)
      case hp0 =>
        obtain ⟨⟨a0, a1, a2⟩, d0, d1, d2⟩ := F5.out w' (h9.trans hD.1)
        go_simp; rfl
      simp only [Act.put, List.setIfInBounds_toArray, List.set_cons_succ, List.set_cons_zero, Nat.reduceAdd]
      refine wM_val ?up1 rfl rfl Ext.refl (fun w' hD => ?hp1) (fun php1 => ?np1)
      case hp1 =>
        obtain ⟨⟨a0, a1, a2⟩, d0, d1, d2⟩ := F5.out w' (h9.trans hD.1)
        go_simp; rfl
      simp only [Act.put, List.setIfInBounds_toArray, List.set_cons_succ, List.set_cons_zero, Nat.reduceAdd]
      refine wM_op _ rfl rfl (opens_call ?fp2 ?gp2 (fun w' hD => ?hp2) (fun w' hD => ?cp2)) (fun v2 hv2 => ?np2)
      case hp2 => go_simp; constructor <;> rfl
      case cp2 =>
        refine (KPA.out w' hD.1).mono ?_
        rintro e w2 ⟨A2, k2, rfl, ho, hb⟩
        exact ⟨_, rfl, hb, A2, k2, rfl, Rd.of_own ho⟩
      obtain ⟨_, -, -, A2p, k2p, rfl, -⟩ := hv2
      simp only [Act.put, List.setIfInBounds_toArray, List.set_cons_succ, List.set_cons_zero, Nat.reduceAdd]
      refine wM_op _ rfl rfl (opens_call ?fp3 ?gp3 (fun w' hD => ?hp3) (fun w' hD => ?cp3)) (fun v3 hv3 => ?np3)
      case hp3 => go_simp; constructor <;> rfl
      case cp3 =>
        obtain ⟨-, A3, k3, e3, hr3⟩ := hD.get 2 (by first | kernel_rfl | simp [Region.binds])
        cases e3
        refine (KRP.out _ _ w' hD.1 hr3).mono ?_
        rintro e w2 ⟨rfl, hb⟩
        exact ⟨_, rfl, hb, rfl⟩
      obtain ⟨_, -, -, rfl⟩ := hv3
      simp only [Act.put, List.setIfInBounds_toArray, List.set_cons_succ, List.set_cons_zero, Nat.reduceAdd]
      refine wM_val ?up4 rfl rfl Ext.refl (fun w' hD => ?hp4) (fun php4 => ?np4)
      case hp4 =>
        obtain ⟨⟨a0, a1, a2⟩, d0, d1, d2⟩ := F5.out w' (h9.trans hD.1)
        go_simp; rfl
      simp only [Act.put, List.setIfInBounds_toArray, List.set_cons_succ, List.set_cons_zero, Nat.reduceAdd]
      refine wM_val ?up5 rfl rfl Ext.refl (fun w' hD => ?hp5) (fun php5 => ?np5)
      case hp5 =>
        obtain ⟨⟨a0, a1, a2⟩, d0, d1, d2⟩ := F5.out w' (h9.trans hD.1)
        go_simp; rfl
      simp only [Act.put, List.setIfInBounds_toArray, List.set_cons_succ, List.set_cons_zero, Nat.reduceAdd]
      refine wM_val ?up6 rfl rfl Ext.refl (fun w' hD => ?hp6) (fun php6 => ?np6)
      case hp6 =>
        obtain ⟨⟨a0, a1, a2⟩, d0, d1, d2⟩ := F5.out w' (h9.trans hD.1)
        go_simp; rfl
      simp only [Act.put, List.setIfInBounds_toArray, List.set_cons_succ, List.set_cons_zero, Nat.reduceAdd]
      refine wM_val ?up7 rfl rfl Ext.refl (fun w' hD => ?hp7) (fun php7 => ?np7)
      case hp7 =>
        obtain ⟨⟨a0, a1, a2⟩, d0, d1, d2⟩ := F5.out w' (h9.trans hD.1)
        go_simp; rfl
      simp only [Act.put, List.setIfInBounds_toArray, List.set_cons_succ, List.set_cons_zero, Nat.reduceAdd]
      refine wM_val ?up8 rfl rfl Ext.refl (fun w' hD => ?hp8) (fun php8 => ?np8)
      case hp8 =>
        obtain ⟨⟨a0, a1, a2⟩, d0, d1, d2⟩ := F5.out w' (h9.trans hD.1)
        go_simp; rfl
      simp only [Act.put, List.setIfInBounds_toArray, List.set_cons_succ, List.set_cons_zero, Nat.reduceAdd]
      refine wM_nil ?_
      intro w9 hw9 hF9
      clear hF9 KPA KRP
      rw [HFL.out]
      go_wp2
      go_loopw [19] (fun i wr => ∃ k : Nat, 1 ≤ k ∧ i = .int .i64 (k : Int) ∧ (k ≤ P ∨ k = 1) ∧ Ext w9 wr) (fun i _ => P + 1 - (intOf i).toNat)
      case atStart => exact ⟨1, Nat.le_refl _, rfl, .inr rfl, Ext.refl _⟩
      case round =>
        obtain ⟨k, hk1, rfl, hkP, hx⟩ := hrel
        by_cases hlt : k < P
        · have hlt' : (k : Int) < (P : Int) := by omega
          have hltm : (k : Int) - 1 < (P : Int) := by omega
          obtain ⟨q, hq⟩ := get_of_lt pr k (by rw [HP.out]; exact hlt)
          obtain ⟨p, hp⟩ := get_of_lt pr (k - 1) (by rw [HP.out]; omega)
          have hpq := HASC.out k hk1 p q hp hq
          have hpq' : ¬ q.1 ≤ p.1 := by omega
          obtain ⟨b1, o1, e1, g0, -⟩ := prs_get (HPA.out wr (hw9.trans hx)) hq
          obtain ⟨b2, o2, e2, k0, -⟩ := prs_get (HPA.out wr (hw9.trans hx)) hp
          subst e1
          cases e2
          obtain ⟨j, hj⟩ : ∃ j : Nat, k = j + 1 := ⟨k - 1, by omega⟩
          subst hj
          rw [Nat.add_sub_cancel] at k0
          have ww1 : IntKind.i64.wrap ((j : Int) + 1 - 1) = (j : Int) := by rw [show (j : Int) + 1 - 1 = j by omega]; exact IntWalk.i64_in _ ⟨by omega, by omega⟩
          have ww2 : IntKind.i64.wrap (((j + 1 : Nat) : Int) - 1) = (j : Int) := by rw [show ((j + 1 : Nat) : Int) - 1 = j by omega]; exact IntWalk.i64_in _ ⟨by omega, by omega⟩
          have hjP : (j : Int) < (P : Int) := by omega
          clear hq hp hpq
          go_wp2
          go_quiet (fail)
          go_wp2
          go_roundw
          case rel => exact ⟨j + 1 + 1, by omega, by go_num, .inl (by omega), hx.drewN _⟩
          case measure => simp [intOf]; omega
        · have hlt' : ¬ (k : Int) < (P : Int) := by omega
          have hxF : Ext V2 wr := h9.trans (hw9.trans hx)
          have KV := proves_any _ h wr (HO.out wr hxF) HS.out (some ⟨g6, 0, none⟩) k6 l (HMI.out wr hxF) (by rw [HM.out]; omega)
          obtain ⟨pv, hpv⟩ : ∃ x, provV h l = x := ⟨_, rfl⟩
          obtain ⟨pe, hpe⟩ : ∃ x, provE h l = x := ⟨_, rfl⟩
          rw [hpv, hpe, HM.out] at KV
          have KV := hid KV
          have HPV := hid hpv
          have HPE := hid hpe
          clear hpv hpe
          obtain ⟨⟨a0, a1, a2⟩, d0, d1, d2⟩ := F5.out wr hxF
          go_wp2_with fail
          refine KV.out.mono ?_
          rintro e X1 ⟨rfl, hy1⟩
          clear KV a0 a1 a2 d0 d1 d2
          have z1 := hxF.trans hy1
          have KPA : Hid (∀ w', Ext X1 w' → Calls Try.prog 41 #[.slice Ar M cr] w' fun e w2 => ∃ A' c', e = .returned (.slice A' M c') ∧ w2.ownsRow w'.heap.size 150 2 (.slice A' M c') M (layPr.rows l) ∧ Ext w' w2) := fun w' hw => by
            have q := paired_any Ar cr l w' (HA.out w' (hE2.trans (z1.trans hw))) (by rw [HM.out]; omega)
            rw [HM.out] at q; exact q
          have KRP : Hid (∀ A' k' w', Ext X1 w' → Prs w' A' l → Calls Try.prog 40 #[.agg #[.int .i64 h.mo, .int .i64 h.pk, .slice A7 N k7], .slice A' M k'] w' fun e w2 => e = .returned (.tuple #[.int .i64 pv, .int .i64 pe]) ∧ Ext w' w2) := fun A' k' w' hw hp => by
            have q := refproves_any _ h A' k' l w' (HX.out w' (z1.trans hw)) HS.out hp (by rw [HM.out]; omega)
            rw [HM.out, HPV.out, HPE.out] at q; exact q
          go_upto_region 23 with fail
          refine wp_region_shut Ext (fun w' => Ext X1 w') (fun
            | 2 => some (fun v w' => ∃ A2 k, v = .slice A2 M k ∧ Prs w' A2 l)
            | 3 => some (fun v _ => v = .tuple #[.int .i64 pv, .int .i64 pe])
            | _ => none) (by kernel_rfl) (by kernel_rfl) (fun _ _ h k => h.trans k) ?hTq (Ext.drew (Ext.refl X1)) ?_
          case hTq =>
            intro i R hR
            match i, hR with
            | 2, hR => cases hR; exact fun v _ _ h hx => by obtain ⟨A2, k, e, ho⟩ := h; exact ⟨A2, k, e, Rows.ext ho hx⟩
            | 3, hR => cases hR; exact fun _ _ _ h _ => h
          refine wM_val ?uq0 rfl rfl Ext.refl (fun w' hD => ?hq0) (fun phq0 => ?nq0)
          case hq0 =>
            obtain ⟨⟨a0, a1, a2⟩, d0, d1, d2⟩ := F5.out w' (z1.trans hD.1)
            go_simp; rfl
          simp only [Act.put, List.setIfInBounds_toArray, List.set_cons_succ, List.set_cons_zero, Nat.reduceAdd]
          refine wM_val ?uq1 rfl rfl Ext.refl (fun w' hD => ?hq1) (fun phq1 => ?nq1)
          case hq1 =>
            obtain ⟨⟨a0, a1, a2⟩, d0, d1, d2⟩ := F5.out w' (z1.trans hD.1)
            go_simp; rfl
          simp only [Act.put, List.setIfInBounds_toArray, List.set_cons_succ, List.set_cons_zero, Nat.reduceAdd]
          refine wM_op _ rfl rfl (opens_call ?fq2 ?gq2 (fun w' hD => ?hq2) (fun w' hD => ?cq2)) (fun v2 hv2 => ?nq2)
          case hq2 => go_simp; constructor <;> rfl
          case cq2 =>
            refine (KPA.out w' hD.1).mono ?_
            rintro e w2 ⟨A2, k2, rfl, ho, hb⟩
            exact ⟨_, rfl, hb, A2, k2, rfl, Rd.of_own ho⟩
          obtain ⟨_, -, -, A2q, k2q, rfl, -⟩ := hv2
          simp only [Act.put, List.setIfInBounds_toArray, List.set_cons_succ, List.set_cons_zero, Nat.reduceAdd]
          refine wM_op _ rfl rfl (opens_call ?fq3 ?gq3 (fun w' hD => ?hq3) (fun w' hD => ?cq3)) (fun v3 hv3 => ?nq3)
          case hq3 => go_simp; constructor <;> rfl
          case cq3 =>
            obtain ⟨-, A3, k3, e3, hr3⟩ := hD.get 2 (by first | kernel_rfl | simp [Region.binds])
            cases e3
            refine (KRP.out _ _ w' hD.1 hr3).mono ?_
            rintro e w2 ⟨rfl, hb⟩
            exact ⟨_, rfl, hb, rfl⟩
          obtain ⟨_, -, -, rfl⟩ := hv3
          simp only [Act.put, List.setIfInBounds_toArray, List.set_cons_succ, List.set_cons_zero, Nat.reduceAdd]
          refine wM_val ?uq4 rfl rfl Ext.refl (fun w' hD => ?hq4) (fun phq4 => ?nq4)
          case hq4 =>
            obtain ⟨⟨a0, a1, a2⟩, d0, d1, d2⟩ := F5.out w' (z1.trans hD.1)
            go_simp; rfl
          simp only [Act.put, List.setIfInBounds_toArray, List.set_cons_succ, List.set_cons_zero, Nat.reduceAdd]
          refine wM_val ?uq5 rfl rfl Ext.refl (fun w' hD => ?hq5) (fun phq5 => ?nq5)
          case hq5 =>
            obtain ⟨⟨a0, a1, a2⟩, d0, d1, d2⟩ := F5.out w' (z1.trans hD.1)
            go_simp; rfl
          simp only [Act.put, List.setIfInBounds_toArray, List.set_cons_succ, List.set_cons_zero, Nat.reduceAdd]
          refine wM_val ?uq6 rfl rfl Ext.refl (fun w' hD => ?hq6) (fun phq6 => ?nq6)
          case hq6 =>
            obtain ⟨⟨a0, a1, a2⟩, d0, d1, d2⟩ := F5.out w' (z1.trans hD.1)
            go_simp; rfl
          simp only [Act.put, List.setIfInBounds_toArray, List.set_cons_succ, List.set_cons_zero, Nat.reduceAdd]
          refine wM_val ?uq7 rfl rfl Ext.refl (fun w' hD => ?hq7) (fun phq7 => ?nq7)
          case hq7 =>
            obtain ⟨⟨a0, a1, a2⟩, d0, d1, d2⟩ := F5.out w' (z1.trans hD.1)
            go_simp; rfl
          simp only [Act.put, List.setIfInBounds_toArray, List.set_cons_succ, List.set_cons_zero, Nat.reduceAdd]
          refine wM_val ?uq8 rfl rfl Ext.refl (fun w' hD => ?hq8) (fun phq8 => ?nq8)
          case hq8 =>
            obtain ⟨⟨a0, a1, a2⟩, d0, d1, d2⟩ := F5.out w' (z1.trans hD.1)
            go_simp; rfl
          simp only [Act.put, List.setIfInBounds_toArray, List.set_cons_succ, List.set_cons_zero, Nat.reduceAdd]
          refine wM_nil ?_
          intro w9 hw9 hF9
          clear hF9 KPA KRP
          have z2 := z1.trans hw9
          have KS := hid (same_yes _ _ h w9 (HO.out w9 z2) (HR.out w9 (hE2.trans z2)) HS.out)
          obtain ⟨⟨a0, a1, a2⟩, d0, d1, d2⟩ := F5.out w9 z2
          obtain ⟨c0, c1, c2⟩ := FH.out w9 (hE2.trans z2)
          go_wp2_with fail
          refine KS.out.mono ?_
          rintro e X3 ⟨rfl, hy3⟩
          clear KS a0 a1 a2 d0 d1 d2 c0 c1 c2
          have z3 := z2.trans hy3
          have KR := eq_bps (some ⟨g6, 0, none⟩) Ar k6 cr l X3 (HMI.out X3 z3) (HA.out X3 (hE2.trans z3)) (by rw [HM.out]; omega)
          rw [HM.out] at KR
          have KR := hid KR
          go_wp2_with fail
          refine KR.out.mono ?_
          rintro e X4 ⟨rfl, hy4⟩
          clear KR
          go_wp2_with fail
          refine (awake_any _).mono ?_
          rintro e wq ⟨rfl, hxq⟩
          go_wp2
          go_ret
          exact ⟨rfl, hxV.trans (z3.trans (hy4.trans hxq))⟩
    · have h0b : (R != 0) = true := by simpa using h0
      have h0c : (R == 0) = false := by simp [h0]
      have e1 := HPN.out h0
      have e2 : P = 0 := by rw [← HP.out, e1]; rfl
      subst e2
      have wr9 := V9
      have hxF : Ext V2 V9 := h9
      clear HPO HPN e1
      obtain ⟨wr, hwr⟩ : ∃ x : World, x = V9 := ⟨_, rfl⟩
      subst hwr
      have KV := proves_any _ h wr (HO.out wr hxF) HS.out (some ⟨g6, 0, none⟩) k6 l (HMI.out wr hxF) (by rw [HM.out]; omega)
      obtain ⟨pv, hpv⟩ : ∃ x, provV h l = x := ⟨_, rfl⟩
      obtain ⟨pe, hpe⟩ : ∃ x, provE h l = x := ⟨_, rfl⟩
      rw [hpv, hpe, HM.out] at KV
      have KV := hid KV
      have HPV := hid hpv
      have HPE := hid hpe
      clear hpv hpe
      obtain ⟨⟨a0, a1, a2⟩, d0, d1, d2⟩ := F5.out wr hxF
      go_wp2_with fail
      refine KV.out.mono ?_
      rintro e X1 ⟨rfl, hy1⟩
      clear KV a0 a1 a2 d0 d1 d2
      have z1 := hxF.trans hy1
      have KPA : Hid (∀ w', Ext X1 w' → Calls Try.prog 41 #[.slice Ar M cr] w' fun e w2 => ∃ A' c', e = .returned (.slice A' M c') ∧ w2.ownsRow w'.heap.size 150 2 (.slice A' M c') M (layPr.rows l) ∧ Ext w' w2) := fun w' hw => by
        have q := paired_any Ar cr l w' (HA.out w' (hE2.trans (z1.trans hw))) (by rw [HM.out]; omega)
        rw [HM.out] at q; exact q
      have KRP : Hid (∀ A' k' w', Ext X1 w' → Prs w' A' l → Calls Try.prog 40 #[.agg #[.int .i64 h.mo, .int .i64 h.pk, .slice A7 N k7], .slice A' M k'] w' fun e w2 => e = .returned (.tuple #[.int .i64 pv, .int .i64 pe]) ∧ Ext w' w2) := fun A' k' w' hw hp => by
        have q := refproves_any _ h A' k' l w' (HX.out w' (z1.trans hw)) HS.out hp (by rw [HM.out]; omega)
        rw [HM.out, HPV.out, HPE.out] at q; exact q
      go_upto_region 23 with fail
      refine wp_region_shut Ext (fun w' => Ext X1 w') (fun
        | 2 => some (fun v w' => ∃ A2 k, v = .slice A2 M k ∧ Prs w' A2 l)
        | 3 => some (fun v _ => v = .tuple #[.int .i64 pv, .int .i64 pe])
        | _ => none) (by kernel_rfl) (by kernel_rfl) (fun _ _ h k => h.trans k) ?hTr (Ext.drew (Ext.refl X1)) ?_
      case hTr =>
        intro i R hR
        match i, hR with
        | 2, hR => cases hR; exact fun v _ _ h hx => by obtain ⟨A2, k, e, ho⟩ := h; exact ⟨A2, k, e, Rows.ext ho hx⟩
        | 3, hR => cases hR; exact fun _ _ _ h _ => h
      refine wM_val ?ur0 rfl rfl Ext.refl (fun w' hD => ?hr0) (fun phr0 => ?nr0)
      case hr0 =>
        obtain ⟨⟨a0, a1, a2⟩, d0, d1, d2⟩ := F5.out w' (z1.trans hD.1)
        go_simp; rfl
      simp only [Act.put, List.setIfInBounds_toArray, List.set_cons_succ, List.set_cons_zero, Nat.reduceAdd]
      refine wM_val ?ur1 rfl rfl Ext.refl (fun w' hD => ?hr1) (fun phr1 => ?nr1)
      case hr1 =>
        obtain ⟨⟨a0, a1, a2⟩, d0, d1, d2⟩ := F5.out w' (z1.trans hD.1)
        go_simp; rfl
      simp only [Act.put, List.setIfInBounds_toArray, List.set_cons_succ, List.set_cons_zero, Nat.reduceAdd]
      refine wM_op _ rfl rfl (opens_call ?fr2 ?gr2 (fun w' hD => ?hr2) (fun w' hD => ?cr2)) (fun v2 hv2 => ?nr2)
      case hr2 => go_simp; constructor <;> rfl
      case cr2 =>
        refine (KPA.out w' hD.1).mono ?_
        rintro e w2 ⟨A2, k2, rfl, ho, hb⟩
        exact ⟨_, rfl, hb, A2, k2, rfl, Rd.of_own ho⟩
      obtain ⟨_, -, -, A2r, k2r, rfl, -⟩ := hv2
      simp only [Act.put, List.setIfInBounds_toArray, List.set_cons_succ, List.set_cons_zero, Nat.reduceAdd]
      refine wM_op _ rfl rfl (opens_call ?fr3 ?gr3 (fun w' hD => ?hr3) (fun w' hD => ?cr3)) (fun v3 hv3 => ?nr3)
      case hr3 => go_simp; constructor <;> rfl
      case cr3 =>
        obtain ⟨-, A3, k3, e3, hr3⟩ := hD.get 2 (by first | kernel_rfl | simp [Region.binds])
        cases e3
        refine (KRP.out _ _ w' hD.1 hr3).mono ?_
        rintro e w2 ⟨rfl, hb⟩
        exact ⟨_, rfl, hb, rfl⟩
      obtain ⟨_, -, -, rfl⟩ := hv3
      simp only [Act.put, List.setIfInBounds_toArray, List.set_cons_succ, List.set_cons_zero, Nat.reduceAdd]
      refine wM_val ?ur4 rfl rfl Ext.refl (fun w' hD => ?hr4) (fun phr4 => ?nr4)
      case hr4 =>
        obtain ⟨⟨a0, a1, a2⟩, d0, d1, d2⟩ := F5.out w' (z1.trans hD.1)
        go_simp; rfl
      simp only [Act.put, List.setIfInBounds_toArray, List.set_cons_succ, List.set_cons_zero, Nat.reduceAdd]
      refine wM_val ?ur5 rfl rfl Ext.refl (fun w' hD => ?hr5) (fun phr5 => ?nr5)
      case hr5 =>
        obtain ⟨⟨a0, a1, a2⟩, d0, d1, d2⟩ := F5.out w' (z1.trans hD.1)
        go_simp; rfl
      simp only [Act.put, List.setIfInBounds_toArray, List.set_cons_succ, List.set_cons_zero, Nat.reduceAdd]
      refine wM_val ?ur6 rfl rfl Ext.refl (fun w' hD => ?hr6) (fun phr6 => ?nr6)
      case hr6 =>
        obtain ⟨⟨a0, a1, a2⟩, d0, d1, d2⟩ := F5.out w' (z1.trans hD.1)
        go_simp; rfl
      simp only [Act.put, List.setIfInBounds_toArray, List.set_cons_succ, List.set_cons_zero, Nat.reduceAdd]
      refine wM_val ?ur7 rfl rfl Ext.refl (fun w' hD => ?hr7) (fun phr7 => ?nr7)
      case hr7 =>
        obtain ⟨⟨a0, a1, a2⟩, d0, d1, d2⟩ := F5.out w' (z1.trans hD.1)
        go_simp; rfl
      simp only [Act.put, List.setIfInBounds_toArray, List.set_cons_succ, List.set_cons_zero, Nat.reduceAdd]
      refine wM_val ?ur8 rfl rfl Ext.refl (fun w' hD => ?hr8) (fun phr8 => ?nr8)
      case hr8 =>
        obtain ⟨⟨a0, a1, a2⟩, d0, d1, d2⟩ := F5.out w' (z1.trans hD.1)
        go_simp; rfl
      simp only [Act.put, List.setIfInBounds_toArray, List.set_cons_succ, List.set_cons_zero, Nat.reduceAdd]
      refine wM_nil ?_
      intro w9 hw9 hF9
      clear hF9 KPA KRP
      have z2 := z1.trans hw9
      have KS := hid (same_yes _ _ h w9 (HO.out w9 z2) (HR.out w9 (hE2.trans z2)) HS.out)
      obtain ⟨⟨a0, a1, a2⟩, d0, d1, d2⟩ := F5.out w9 z2
      obtain ⟨c0, c1, c2⟩ := FH.out w9 (hE2.trans z2)
      go_wp2_with fail
      refine KS.out.mono ?_
      rintro e X3 ⟨rfl, hy3⟩
      clear KS a0 a1 a2 d0 d1 d2 c0 c1 c2
      have z3 := z2.trans hy3
      have KR := eq_bps (some ⟨g6, 0, none⟩) Ar k6 cr l X3 (HMI.out X3 z3) (HA.out X3 (hE2.trans z3)) (by rw [HM.out]; omega)
      rw [HM.out] at KR
      have KR := hid KR
      go_wp2_with fail
      refine KR.out.mono ?_
      rintro e X4 ⟨rfl, hy4⟩
      clear KR
      go_wp2_with fail
      refine (awake_any _).mono ?_
      rintro e wq ⟨rfl, hxq⟩
      go_wp2
      go_ret
      exact ⟨rfl, hxV.trans (z3.trans (hy4.trans hxq))⟩
end Go.Proofs.Ytjnobdcbbboeeaa
