/- The walk of BoilClash. Printed by my gen_bclh.py. -/
import Derived.Test.YtjnobdcbbboeeaaBCmp
import Derived.Test.YtjnobdcbbboeeaaBRf7
import Derived.Test.YtjnobdcbbboeeaaBClaQ
import Derived.Test.YtjnobdcbbboeeaaH7
import Derived.Test.YtjnobdcbbboeeaaBSho
import Derived.Test.YtjnobdcbbboeeaaHa
import Derived.Deep.DeepCutAuto
import Derived.Deep.CutBlock
import Derived.Deep.QuietTactic
import Derived.BigQuiet
import Derived.OwnWalk
namespace Go.Proofs.Ytjnobdcbbboeeaa
open Go Go.RowKit Go.Shelf
set_option linter.unusedVariables false
set_option linter.unusedSimpArgs false


theorem run_eqz (w : World) : (binOp .eql 36 (.agg #[.int .i64 0, .int .i64 0]) (.agg #[.int .i64 0, .int .i64 0])).run Try.prog w = .ok (.bool true) w ∧ (binOp .eql 43 (.agg #[.int .i64 0, .int .i64 0]) (.agg #[.int .i64 0, .int .i64 0])).run Try.prog w = .ok (.bool true) w ∧ (binOp .eql 47 (.agg #[.int .i64 0, .int .i64 0]) (.agg #[.int .i64 0, .int .i64 0])).run Try.prog w = .ok (.bool true) w := by
  have hu := Try.underlying3
  refine ⟨?_, ?_, ?_⟩
  · have ht : Try.prog.underlying 36 = some (.struct (Try.prog.fieldsOf 36)) := by kernel_rfl
    have hp : Try.prog.stoodInHeld 36 = false := by kernel_rfl
    rw [run_eql_struct, run_equalIn_agg w _ _ _ _ ht hp]
    simp [Program.fieldsOf, Try.underlying36, Op.eqFields, go_sem, hu]
  · have ht : Try.prog.underlying 43 = some (.struct (Try.prog.fieldsOf 43)) := by kernel_rfl
    have hp : Try.prog.stoodInHeld 43 = false := by kernel_rfl
    rw [run_eql_struct, run_equalIn_agg w _ _ _ _ ht hp]
    simp [Program.fieldsOf, Try.underlying43, Op.eqFields, go_sem, hu]
  · have ht : Try.prog.underlying 47 = some (.struct (Try.prog.fieldsOf 47)) := by kernel_rfl
    have hp : Try.prog.stoodInHeld 47 = false := by kernel_rfl
    rw [run_eql_struct, run_equalIn_agg w _ _ _ _ ht hp]
    simp [Program.fieldsOf, Try.underlying47, Op.eqFields, go_sem, hu]

theorem run_ne_sp (w : World) (x y : Int) : (binOp .neq 47 (.agg #[.int .i64 x, .int .i64 y]) (.agg #[.int .i64 x, .int .i64 y])).run Try.prog w = .ok (.bool false) w := by
  have ht : Try.prog.underlying 47 = some (.struct (Try.prog.fieldsOf 47)) := by kernel_rfl
  have hp : Try.prog.stoodInHeld 47 = false := by kernel_rfl
  rw [run_neq_struct, run_equalIn_agg w _ _ _ _ ht hp]
  have hu := Try.underlying3
  simp [Program.fieldsOf, Try.underlying47, Op.eqFields, go_sem, hu]
set_option maxRecDepth 100000 in
set_option maxHeartbeats 16000000 in
theorem boilclash_any (v : Value) (h : Hs) (mo sh mt : Int) (w : World) (hr : HsR w v h) (hs : h.sized) :
    Calls Try.prog 8 #[v, .int .i64 mo, .int .i64 sh, .int .i64 mt] w fun e w' => e = .returned (.bool true) ∧ Below w.heap.size w w' := by
  obtain ⟨A, c, rfl, hrw, hcap⟩ := hr
  obtain ⟨N, hN⟩ : ∃ N : Nat, h.ws.length = N := ⟨_, rfl⟩
  have HN := hid hN
  unfold hval
  rw [hN]
  obtain ⟨W0, hW0⟩ : ∃ W0, w.alloc (.cells #[.int .i64 h.mo, .int .i64 h.pk, .slice A N c] 25) = W0 := ⟨_, rfl⟩
  have hx0 : Ext w W0 := by rw [← hW0]; exact Ext.alloc (Ext.refl w) _
  have b0 : W0.heap[w.heap.size]? = some (.cells #[.int .i64 h.mo, .int .i64 h.pk, .slice A N c] 25 (0, 0)) := by rw [← hW0]; exact heap_alloc_new w _
  have FH : Hid (∀ w', Ext W0 w' → w'.cell? ⟨w.heap.size, 0, none⟩ = some (.int .i64 h.mo) ∧ w'.cell? ⟨w.heap.size, 1, none⟩ = some (.int .i64 h.pk) ∧ w'.cell? ⟨w.heap.size, 2, none⟩ = some (.slice A N c)) := fun w' hx => by
    obtain ⟨q0, q1, q2, -⟩ := house_cells b0
    exact ⟨hx.cell q0, hx.cell q1, hx.cell q2⟩
  have HR : Hid (∀ w', Ext W0 w' → HsR w' (.agg #[.int .i64 h.mo, .int .i64 h.pk, .slice A N c]) h) := fun w' hx => ⟨A, c, by unfold hval; rw [hN], Rows.ext hrw (hx0.trans hx), hcap⟩
  have HS := hid hs
  have HW0 := hid hW0
  clear hW0 b0 hrw hcap hN
  have KG := hid (great_any _ h W0 (HR.out W0 (Ext.refl _)))
  rw [HN.out] at KG
  clear hs
  go_enter Try.func8, Try.ntmps8
  go_upto_region 1 with fail
  rw [HW0.out]
  clear HW0
  obtain ⟨c0, c1, c2⟩ := FH.out W0 (Ext.refl _)
  go_wp2_with fail
  refine KG.out.mono ?_
  rintro e w1 ⟨rfl, hx1⟩
  clear KG c0 c1 c2
  by_cases hg : 20 < N
  · have hgd : decide (20 < N) = true := decide_eq_true hg
    rw [hgd]
    clear hgd
    go_wp2_with fail
    refine (awake_any _).mono ?_
    rintro e wq ⟨rfl, hxq⟩
    go_wp2
    go_ret
    exact ⟨rfl, hx0.trans (hx1.trans hxq)⟩
  have hgd : decide (20 < N) = false := decide_eq_false hg
  rw [hgd]
  clear hgd
  go_upto_region 3 with fail
  have hn20 : N ≤ 20 := by omega
  have hx01 := hx1
  clear hg
  refine wp_region_shut_tail Ext (fun w' => Ext W0 w') (fun
    | 1 => some (fun v w' => ∃ g k, v = .agg #[.int .i64 h.mo, .int .i64 h.pk, .slice (some ⟨g, 0, none⟩) N k] ∧ w'.ownsRow W0.heap.size 55 5 (.slice (some ⟨g, 0, none⟩) N k) N (layWg.rows h.ws))
    | 3 => some (fun v w' => ∃ A2 k, v = .agg #[.int .i64 h.mo, .int .i64 h.pk, .slice A2 N k] ∧ w'.ownsRow W0.heap.size 92 5 (.slice A2 N k) N (layWg.rows h.ws))
    | 4 => some (fun v w' => ∃ b, v = .pointer (some ⟨b, 0, none⟩) ∧ W0.heap.size ≤ b ∧ w'.heap[b]? = some (.cells #[.int .i64 0, .int .i64 0, .slice none 0 0] 25 (0, 0)))
    | 5 => some (fun v w' => ∃ b, v = .pointer (some ⟨b, 0, none⟩) ∧ W0.heap.size ≤ b ∧ w'.heap[b]? = some (.cells #[.int .i64 0, .int .i64 0, .slice none 0 0] 75 (0, 0)))
    | _ => none) 6 (by kernel_rfl) (by kernel_rfl) (fun _ _ h k => h.trans k) ?hTt (hx01.trans (Ext.drew (Ext.refl _))) ?_
  case hTt =>
    intro i R hR
    match i, hR with
    | 1, hR => cases hR; exact fun v _ _ h hx => by obtain ⟨g, k, e, ho⟩ := h; exact ⟨g, k, e, own_below ho hx⟩
    | 3, hR => cases hR; exact fun v _ _ h hx => by obtain ⟨g, k, e, ho⟩ := h; exact ⟨g, k, e, own_below ho hx⟩
    | 4, hR => cases hR; exact fun v _ _ h hx => by obtain ⟨b, e, hz, hb⟩ := h; exact ⟨b, e, hz, (Below.block hx _ (Array.getElem?_eq_some_iff.1 hb).1).trans hb⟩
    | 5, hR => cases hR; exact fun v _ _ h hx => by obtain ⟨b, e, hz, hb⟩ := h; exact ⟨b, e, hz, (Below.block hx _ (Array.getElem?_eq_some_iff.1 hb).1).trans hb⟩
  refine wM_val ?ut0 rfl rfl Ext.refl (fun w' hD => ?ht0) (fun pht0 => ?nt0)
  case ht0 =>
    obtain ⟨c0, c1, c2⟩ := FH.out w' hD.1
    go_simp; rfl
  simp only [Act.put, List.setIfInBounds_toArray, List.set_cons_succ, List.set_cons_zero, Nat.reduceAdd]
  refine wM_op _ rfl rfl (opens_call ?ft1 ?gt1 (fun w' hD => ?ht1) (fun w' hD => ?ct1)) (fun v1 hv1 => ?nt1)
  case ht1 => go_simp; constructor <;> rfl
  case ct1 =>
    have K := lown_any _ h w' (HR.out w' hD.1) (by rw [HN.out]; omega)
    unfold hval at K
    rw [HN.out] at K
    refine K.mono ?_
    rintro e w2 ⟨g, k, rfl, ho, hb⟩
    exact ⟨_, rfl, hb, g, k, rfl, own_base ho hD.1.size⟩
  obtain ⟨_, -, -, g5, k5, rfl, -⟩ := hv1
  simp only [Act.put, List.setIfInBounds_toArray, List.set_cons_succ, List.set_cons_zero, Nat.reduceAdd]
  refine wM_val ?ut2 rfl rfl Ext.refl (fun w' hD => ?ht2) (fun pht2 => ?nt2)
  case ht2 =>
    obtain ⟨c0, c1, c2⟩ := FH.out w' hD.1
    go_simp; rfl
  simp only [Act.put, List.setIfInBounds_toArray, List.set_cons_succ, List.set_cons_zero, Nat.reduceAdd]
  refine wM_op _ rfl rfl (opens_call ?ft3 ?gt3 (fun w' hD => ?ht3) (fun w' hD => ?ct3)) (fun v3 hv3 => ?nt3)
  case ht3 => go_simp; constructor <;> rfl
  case ct3 =>
    have K := theirs_any _ h w' (HR.out w' hD.1) (by rw [HN.out]; omega)
    unfold hval at K
    rw [HN.out] at K
    refine K.mono ?_
    rintro e w2 ⟨A2, k, rfl, ho, hb⟩
    exact ⟨_, rfl, hb, A2, k, rfl, own_base ho hD.1.size⟩
  obtain ⟨_, -, -, A7, k7, rfl, -⟩ := hv3
  simp only [Act.put, List.setIfInBounds_toArray, List.set_cons_succ, List.set_cons_zero, Nat.reduceAdd]
  refine wM_op _ rfl rfl (opens_val (fun w' hD => ?hbt4)) (fun v4 hv4 => ?nbt4)
  case hbt4 =>
    refine ⟨.pointer (some ⟨w'.heap.size, 0, none⟩), w'.alloc (.cells #[.int .i64 0, .int .i64 0, .slice none 0 0] 25), ?_, Ext.alloc (Ext.refl _) _, _, rfl, hD.1.size, heap_alloc_new _ _⟩
    go_simp
  obtain ⟨_, -, -, b6, rfl, hzb6, -⟩ := hv4
  simp only [Act.put, List.setIfInBounds_toArray, List.set_cons_succ, List.set_cons_zero, Nat.reduceAdd]
  refine wM_op _ rfl rfl (opens_val (fun w' hD => ?hbt5)) (fun v5 hv5 => ?nbt5)
  case hbt5 =>
    refine ⟨.pointer (some ⟨w'.heap.size, 0, none⟩), w'.alloc (.cells #[.int .i64 0, .int .i64 0, .slice none 0 0] 75), ?_, Ext.alloc (Ext.refl _) _, _, rfl, hD.1.size, heap_alloc_new _ _⟩
    go_simp
  obtain ⟨_, -, -, b7, rfl, hzb7, -⟩ := hv5
  simp only [Act.put, List.setIfInBounds_toArray, List.set_cons_succ, List.set_cons_zero, Nat.reduceAdd]
  refine wM_nil ?_
  intro w9 hw9 hF9
  obtain ⟨-, g5', k5', e5, ho5⟩ := hF9 1
  cases e5
  obtain ⟨-, A7', k7', e7, ho7⟩ := hF9 3
  cases e7
  obtain ⟨-, b6', e6, hz6, hb6⟩ := hF9 4
  cases e6
  obtain ⟨-, b7', e7, hz7, hb7⟩ := hF9 5
  cases e7
  clear hF9
  simp only [List.drop_succ_cons, List.drop_zero]
  have hne67 : ¬ b7 = b6 := fun e => by
    rw [e, hb6] at hb7
    injection hb7 with q
    injection q with _ q2 _
    exact absurd q2 (by decide)
  obtain ⟨u0, u1, u2, fu⟩ := house_cells hb6
  obtain ⟨y0, y1, y2, fy⟩ := house_cells hb7
  obtain ⟨V1, hV1, q1, q2⟩ := put_house2 (v0 := .int .i64 h.mo) (v1 := .int .i64 h.pk) (v2 := .slice (some ⟨g5, 0, none⟩) N k5) hb6
  have hb71 := q2.heap hb7 hne67
  obtain ⟨V2, hV2, q3, q4⟩ := put_house2 (v0 := .int .i64 h.mo) (v1 := .int .i64 h.pk) (v2 := .slice A7 N k7) hb71
  obtain ⟨y3, y4, y5, fy2⟩ := house_cells hb71
  have q5 := q4.heap q1 (fun e => hne67 e.symm)
  have hE2 : Ext W0 V2 := (((Ext.belS (S := fun j => W0.heap.size ≤ j) hw9).trans (q2.mono fun k _ hk => by subst hk; exact hz6)).trans (q4.mono fun k _ hk => by subst hk; exact hz7)).ext (fun k hk hS => by omega)
  have o5 := q4.own (q2.own ho5 (fun j hj e => own_neC ho5 hb6 (by decide) (by rw [hj, e]))) (fun j hj e => own_neC ho5 hb7 (by decide) (by rw [hj, e]))
  have o7 := q4.own (q2.own ho7 (fun j hj e => own_neC ho7 hb6 (by decide) (by rw [hj, e]))) (fun j hj e => own_neC ho7 hb7 (by decide) (by rw [hj, e]))
  have F5 : Hid (∀ w', Ext V2 w' → (w'.cell? ⟨b6, 0, none⟩ = some (.int .i64 h.mo) ∧ w'.cell? ⟨b6, 1, none⟩ = some (.int .i64 h.pk) ∧ w'.cell? ⟨b6, 2, none⟩ = some (.slice (some ⟨g5, 0, none⟩) N k5)) ∧ w'.cell? ⟨b7, 0, none⟩ = some (.int .i64 h.mo) ∧ w'.cell? ⟨b7, 1, none⟩ = some (.int .i64 h.pk) ∧ w'.cell? ⟨b7, 2, none⟩ = some (.slice A7 N k7)) := fun w' hx => by
    obtain ⟨a0, a1, a2, -⟩ := house_cells q5
    obtain ⟨d0, d1, d2, -⟩ := house_cells q3
    exact ⟨⟨hx.cell a0, hx.cell a1, hx.cell a2⟩, hx.cell d0, hx.cell d1, hx.cell d2⟩
  have HO : Hid (∀ w', Ext V2 w' → HsR w' (.agg #[.int .i64 h.mo, .int .i64 h.pk, .slice (some ⟨g5, 0, none⟩) N k5]) h) := fun w' hx => ⟨_, k5, by unfold hval; rw [HN.out], Rd.of_own (own_below o5 hx), by rw [HN.out]; exact own_cap2 o5⟩
  have HX : Hid (∀ w', Ext V2 w' → HsR w' (.agg #[.int .i64 h.mo, .int .i64 h.pk, .slice A7 N k7]) h) := fun w' hx => ⟨_, k7, by unfold hval; rw [HN.out], Rd.of_own (own_below o7 hx), by rw [HN.out]; exact own_cap2 o7⟩
  have HV1 := hid hV1
  have HV2 := hid hV2
  have hxV := hx0.trans hE2
  clear hV1 hV2 q1 q2 q3 q4 q5 hb6 hb7 hb71 ho5 ho7 o5 o7 hz6 hz7
  have hne76 : ¬ b6 = b7 := fun e => hne67 e.symm
  obtain ⟨R, hR⟩ : ∃ R, checkH h = R := ⟨_, rfl⟩
  have HRR := hid hR
  have KC := refcheck_any _ h V2 (HX.out V2 (Ext.refl _)) HS.out
  rw [hR] at KC
  have KC := hid KC
  go_upto_region 4 with fail
  rw [HV1.out, HV2.out]
  clear HV1 HV2 hne67 hne76 u0 u1 u2 fu y0 y1 y2 fy y3 y4 y5 fy2 hR
  obtain ⟨⟨a0, a1, a2⟩, d0, d1, d2⟩ := F5.out V2 (Ext.refl _)
  go_wp2_with fail
  refine KC.out.mono ?_
  rintro e V3 ⟨rfl, hx3⟩
  clear KC a0 a1 a2 d0 d1 d2
  obtain ⟨cv, hcv⟩ : ∃ x, claV h = x := ⟨_, rfl⟩
  obtain ⟨ce, hce⟩ : ∃ x, claE h = x := ⟨_, rfl⟩
  obtain ⟨sv, hsv⟩ : ∃ x, shoV h = x := ⟨_, rfl⟩
  obtain ⟨se, hse⟩ : ∃ x, shoE h = x := ⟨_, rfl⟩
  obtain ⟨bl, hbl⟩ : ∃ x, bndL h mo = x := ⟨_, rfl⟩
  obtain ⟨bu, hbu⟩ : ∃ x, bndU h mo = x := ⟨_, rfl⟩
  obtain ⟨be, hbe⟩ : ∃ x, bndE h mo = x := ⟨_, rfl⟩
  obtain ⟨ml, hml⟩ : ∃ x, meatL h mo sh = x := ⟨_, rfl⟩
  obtain ⟨mu, hmu⟩ : ∃ x, meatU h mo sh = x := ⟨_, rfl⟩
  obtain ⟨me, hme⟩ : ∃ x, meatE h mo sh = x := ⟨_, rfl⟩
  obtain ⟨kv, hkv⟩ : ∃ x, keptV h mo sh mt = x := ⟨_, rfl⟩
  obtain ⟨ke, hke⟩ : ∃ x, keptE h mo sh mt = x := ⟨_, rfl⟩
  obtain ⟨P, hP⟩ : ∃ P : Nat, sv.length = P := ⟨_, rfl⟩
  have HCV := hid hcv
  have HCE := hid hce
  have HSV := hid hsv
  have HSE := hid hse
  have HBL := hid hbl
  have HBU := hid hbu
  have HBE := hid hbe
  have HML := hid hml
  have HMU := hid hmu
  have HME := hid hme
  have HKV := hid hkv
  have HKE := hid hke
  have HP := hid hP
  have KC : Hid (∀ w', Ext V2 w' → _) := fun w' hw => clash_any _ h w' (HO.out w' hw) HS.out
  have KS : Hid (∀ w', Ext V2 w' → _) := fun w' hw => shownx_any _ h w' (HO.out w' hw) HS.out
  have KB : Hid (∀ w', Ext V2 w' → _) := fun w' hw => bounds_any _ h mo w' (HO.out w' hw) HS.out
  have KM : Hid (∀ w', Ext V2 w' → _) := fun w' hw => meat_any _ h mo sh w' (HO.out w' hw) HS.out
  have KK : Hid (∀ w', Ext V2 w' → _) := fun w' hw => kept_any _ h mo sh mt w' (HO.out w' hw) HS.out
  unfold claRes at KC
  rw [hcv, hce] at KC
  rw [hsv, hse, hP] at KS
  rw [hbl, hbu, hbe] at KB
  unfold rval at KB
  rw [hml, hmu, hme] at KM
  rw [hkv, hke] at KK
  clear hcv hce hsv hse hbl hbu hbe hml hmu hme hkv hke hP
  obtain ⟨⟨a0, a1, a2⟩, d0, d1, d2⟩ := F5.out V3 hx3
  go_wp2_with fail
  refine (KC.out V3 hx3).mono ?_
  rintro e V4 ⟨rfl, hx4⟩
  clear KC a0 a1 a2 d0 d1 d2
  go_upto_region 6 with fail
  obtain ⟨Q4, hQ4⟩ : ∃ P, V4.alloc (.cells #[.int .i64 cv.1, .int .i64 cv.2] 36) = P := ⟨_, rfl⟩
  have xQ4 : Ext V4 Q4 := by rw [← hQ4]; exact (Ext.refl _).alloc _
  have bQ4 : Q4.heap[V4.heap.size]? = some (.cells #[.int .i64 cv.1, .int .i64 cv.2] 36 (0, 0)) := by rw [← hQ4]; exact heap_alloc_new V4 _
  try rw [hQ4]
  obtain ⟨BP, hBP⟩ : ∃ b, V4.heap.size = b := ⟨_, rfl⟩
  rw [hBP] at bQ4
  try rw [hBP]
  clear hQ4 hBP
  have h4 := hx3.trans (hx4.trans xQ4)
  clear hx4 xQ4
  obtain ⟨⟨a0, a1, a2⟩, d0, d1, d2⟩ := F5.out Q4 h4
  go_wp2_with fail
  refine (KS.out Q4 h4).mono ?_
  rintro e V5 ⟨A14, c14, rfl, hx5, hos⟩
  clear KS a0 a1 a2 d0 d1 d2
  have h5 := h4.trans hx5
  have HSR : Hid (∀ w', Ext V5 w' → Prs w' A14 sv) := fun w' hw => by have q := Rd.of_own (own_below hos hw); first | exact q | (rw [HSV.out] at q; exact q)
  clear hos
  obtain ⟨⟨a0, a1, a2⟩, d0, d1, d2⟩ := F5.out V5 h5
  go_wp2_with fail
  refine (KB.out V5 h5).mono ?_
  rintro e V6 ⟨rfl, hx6⟩
  clear KB a0 a1 a2 d0 d1 d2
  have h6 := h5.trans hx6
  go_upto_region 8 with fail
  obtain ⟨Q6, hQ6⟩ : ∃ P, (V6.alloc (.cells #[.int .i64 bl.1, .int .i64 bl.2] 43)).alloc (.cells #[.int .i64 bu.1, .int .i64 bu.2] 43) = P := ⟨_, rfl⟩
  have xQ6 : Ext V6 Q6 := by rw [← hQ6]; exact (Ext.refl _).alloc _ |>.alloc _
  have bQ6a : Q6.heap[V6.heap.size]? = some (.cells #[.int .i64 bl.1, .int .i64 bl.2] 43 (0, 0)) := by rw [← hQ6]; exact (Below.heap_alloc _ _ _ (by simp)).trans (heap_alloc_new V6 _)
  have bQ6b : Q6.heap[V6.heap.size + 1]? = some (.cells #[.int .i64 bu.1, .int .i64 bu.2] 43 (0, 0)) := by
    rw [← hQ6]
    have q := heap_alloc_new (V6.alloc (.cells #[.int .i64 bl.1, .int .i64 bl.2] 43)) (.cells #[.int .i64 bu.1, .int .i64 bu.2] 43)
    rw [World.size_alloc] at q
    exact q
  try rw [hQ6]
  obtain ⟨BB, hBB⟩ : ∃ b, V6.heap.size = b := ⟨_, rfl⟩
  rw [hBB] at bQ6a bQ6b
  try rw [hBB]
  clear hQ6 hBB
  have h6q := h6.trans xQ6
  obtain ⟨⟨a0, a1, a2⟩, d0, d1, d2⟩ := F5.out Q6 h6q
  go_wp2_with fail
  refine (KM.out Q6 h6q).mono ?_
  rintro e V7 ⟨rfl, hx7⟩
  clear KM a0 a1 a2 d0 d1 d2
  have h7 := h6q.trans hx7
  go_upto_region 9 with fail
  obtain ⟨Q7, hQ7⟩ : ∃ P, V7.alloc (.cells #[.int .i64 ml, .int .i64 mu] 47) = P := ⟨_, rfl⟩
  have xQ7 : Ext V7 Q7 := by rw [← hQ7]; exact (Ext.refl _).alloc _
  have bQ7 : Q7.heap[V7.heap.size]? = some (.cells #[.int .i64 ml, .int .i64 mu] 47 (0, 0)) := by rw [← hQ7]; exact heap_alloc_new V7 _
  try rw [hQ7]
  obtain ⟨BS, hBS⟩ : ∃ b, V7.heap.size = b := ⟨_, rfl⟩
  rw [hBS] at bQ7
  try rw [hBS]
  clear hQ7 hBS
  have h7q := h7.trans xQ7
  obtain ⟨⟨a0, a1, a2⟩, d0, d1, d2⟩ := F5.out Q7 h7q
  go_wp2_with fail
  refine (KK.out Q7 h7q).mono ?_
  rintro e V8 ⟨rfl, hx8⟩
  clear KK a0 a1 a2 d0 d1 d2
  have h8 := h7q.trans hx8
  have FC : Hid (∀ w', Ext V8 w' → (w'.cell? ⟨BP, 0, none⟩ = some (.int .i64 cv.1) ∧ w'.cell? ⟨BP, 1, none⟩ = some (.int .i64 cv.2)) ∧ ((w'.cell? ⟨BB, 0, none⟩ = some (.int .i64 bl.1) ∧ w'.cell? ⟨BB, 1, none⟩ = some (.int .i64 bl.2)) ∧ w'.cell? ⟨BB + 1, 0, none⟩ = some (.int .i64 bu.1) ∧ w'.cell? ⟨BB + 1, 1, none⟩ = some (.int .i64 bu.2)) ∧ w'.cell? ⟨BS, 0, none⟩ = some (.int .i64 ml) ∧ w'.cell? ⟨BS, 1, none⟩ = some (.int .i64 mu)) := fun w' hw => by
    obtain ⟨p0, p1, -⟩ := rat_cells bQ4
    obtain ⟨p2, p3, -⟩ := rat_cells bQ6a
    obtain ⟨p4, p5, -⟩ := rat_cells bQ6b
    obtain ⟨p6, p7, -⟩ := rat_cells bQ7
    have y7 := hx8.trans hw
    have y6 := hx7.trans (xQ7.trans y7)
    have y4 := hx5.trans (hx6.trans (xQ6.trans y6))
    exact ⟨⟨y4.cell p0, y4.cell p1⟩, ⟨⟨y6.cell p2, y6.cell p3⟩, y6.cell p4, y6.cell p5⟩, y7.cell p6, y7.cell p7⟩
  have HSW : Hid (∀ w', Ext V8 w' → Prs w' A14 sv) := fun w' hw => HSR.out w' (hx6.trans (xQ6.trans (hx7.trans (xQ7.trans (hx8.trans hw)))))
  clear hx3 h4 h5 hx5 h6 hx6 xQ6 h6q hx7 h7 xQ7 h7q hx8 HSR bQ4 bQ6a bQ6b bQ7
  by_cases h0 : R = 0
  case neg =>
    as_aux_lemma =>
     have h0b : (R != 0) = true := by simpa using h0
     have e1 : ce = R := by rw [← HCE.out]; unfold claE; rw [HRR.out, if_pos h0]
     have e2 : se = R := by rw [← HSE.out]; unfold shoE; rw [HRR.out, if_pos h0]
     have e3 : be = R := by rw [← HBE.out]; unfold bndE; rw [HRR.out, if_pos h0]
     have e4 : me = R := by rw [← HME.out]; unfold meatE; rw [HRR.out, if_pos h0]
     have e5 : ke = R := by rw [← HKE.out]; unfold keptE; rw [HRR.out, if_pos h0]
     have f1 : cv = (0, 0) := by rw [← HCV.out]; unfold claV; rw [HRR.out, if_pos h0]
     have f2 : P = 0 := by rw [← HP.out, ← HSV.out]; unfold shoV; rw [HSE.out, e2, if_neg h0]; rfl
     have f3 : bl = (0, 0) := by rw [← HBL.out]; unfold bndL; rw [HBE.out, e3, if_neg h0]
     have f4 : bu = (0, 0) := by rw [← HBU.out]; unfold bndU; rw [HBE.out, e3, if_neg h0]
     have f5 : ml = 0 := by rw [← HML.out]; unfold meatL; rw [HME.out, e4, if_neg h0]
     have f6 : mu = 0 := by rw [← HMU.out]; unfold meatU; rw [HME.out, e4, if_neg h0]
     have f7 : kv = 0 := by rw [← HKV.out]; unfold keptV; rw [HKE.out, e5, if_neg h0]
     have y1 := fun w => (run_eqz w).1
     have y2 := fun w => (run_eqz w).2.1
     have y3 := fun w => (run_eqz w).2.2
     have KS := hid (same_yes _ _ h V8 (HO.out V8 h8) (HR.out V8 (hE2.trans h8)) HS.out)
     obtain ⟨⟨p0, p1⟩, ⟨⟨p2, p3⟩, p4, p5⟩, p6, p7⟩ := FC.out V8 (Ext.refl _)
     obtain ⟨⟨a0, a1, a2⟩, d0, d1, d2⟩ := F5.out V8 h8
     obtain ⟨c0, c1, c2⟩ := FH.out V8 (hE2.trans h8)
     clear HCE HSE HBE HME HKE HCV HP HSV HBL HBU HML HMU HKV FC HSW
     subst e1
     subst e2
     subst e3
     subst e4
     subst e5
     subst f1
     subst f2
     subst f3
     subst f4
     subst f5
     subst f6
     subst f7
     go_wp2_with fail
     refine KS.out.mono ?_
     rintro e X1 ⟨rfl, hy1⟩
     clear KS a0 a1 a2 d0 d1 d2 c0 c1 c2 p0 p1 p2 p3 p4 p5 p6 p7
     go_wp2_with fail
     refine (awake_any _).mono ?_
     rintro e wq ⟨rfl, hxq⟩
     go_wp2
     go_ret
     exact ⟨rfl, hxV.trans (h8.trans (hy1.trans hxq))⟩
  subst h0
  have hk := checkH_ok HRR.out
  have HK := hid hk
  have hs7 := (cla_ok hk).sh
  have hs6 := (cla_ok hk).ok
  rw [HCE.out, HSE.out, HSV.out] at hs7 hs6
  have HS7 := hid hs7
  have HS6 := hid hs6
  have HFE : Hid (cv = fstQ (claP h) ∧ ce = errQ (claP h)) := by unfold Hid; rw [← HCV.out, ← HCE.out]; exact fstQ_end hk
  have KCL : Hid (∀ (a b : Nat) w', a < N → b < N → Ext V2 w' → _) := fun a b w' ha hb hw => refclashes_any _ h a b w' (HX.out w' hw) (by rw [HN.out]; exact ha) (by rw [HN.out]; exact hb) (fun x hx => wgM_of HK.out hx)
  clear hk hs7 hs6
  obtain ⟨c0, c1, c2⟩ := FH.out V8 (hE2.trans h8)
  go_upto_region 13 with fail
  obtain ⟨Q9, hQ9⟩ : ∃ P, V8.alloc (.cells #[.int .i64 0, .int .i64 0] 36) = P := ⟨_, rfl⟩
  have xQ9 : Ext V8 Q9 := by rw [← hQ9]; exact (Ext.refl _).alloc _
  have bQ9 : Q9.heap[V8.heap.size]? = some (.cells #[.int .i64 0, .int .i64 0] 36 (0, 0)) := by rw [← hQ9]; exact heap_alloc_new V8 _
  try rw [hQ9]
  obtain ⟨BQ, hBQ⟩ : ∃ b, V8.heap.size = b := ⟨_, rfl⟩
  have hBQ8 : V8.heap.size ≤ BQ := by omega
  rw [hBQ] at bQ9
  try rw [hBQ]
  clear hQ9 hBQ c0 c1 c2
  obtain ⟨c0, c1, c2⟩ := FH.out Q9 (hE2.trans (h8.trans xQ9))
  go_wp2
  clear c0 c1 c2
  go_loopw [24, 144] (fun s24 i wr => ∃ (a : Nat) (E6 : Int) (p : Int × Int), i = .int .i64 (a : Int) ∧ a ≤ N ∧ s24 = .int .i64 E6 ∧ Hid (errQ (topQ h a) = E6 ∧ fstQ (topQ h a) = p) ∧ wr.heap[BQ]? = some (.cells #[.int .i64 p.1, .int .i64 p.2] 36 (0, 0)) ∧ Ext V8 wr) (fun _ i _ => N - (intOf i).toNat)
  case atStart => exact ⟨0, 6, (0, 0), rfl, Nat.zero_le _, rfl, ⟨rfl, rfl⟩, bQ9, xQ9⟩
  case round =>
    obtain ⟨a, E6, p, rfl, ha, rfl, HQ, hbq, hx⟩ := hrel
    by_cases hla : a < N
    · have hla' : (a : Int) < (N : Int) := by omega
      obtain ⟨c0, c1, c2⟩ := FH.out wr (hE2.trans (h8.trans hx))
      have HQ0 : Hid (errQ (topQ h a ++ rowQ h a 0) = E6 ∧ fstQ (topQ h a ++ rowQ h a 0) = p) := by unfold Hid; rw [show rowQ h a 0 = [] from rfl, List.append_nil]; exact HQ.out
      obtain ⟨wo, rfl⟩ : ∃ wo : World, wo = wr := ⟨_, rfl⟩
      go_wp2
      clear c0 c1 c2 HQ
      go_loopw [24, 150] (fun s24 i wr => ∃ (b : Nat) (E6 : Int) (p : Int × Int), i = .int .i64 (b : Int) ∧ b ≤ N ∧ s24 = .int .i64 E6 ∧ Hid (errQ (topQ h a ++ rowQ h a b) = E6 ∧ fstQ (topQ h a ++ rowQ h a b) = p) ∧ wr.heap[BQ]? = some (.cells #[.int .i64 p.1, .int .i64 p.2] 36 (0, 0)) ∧ Ext V8 wr) (fun _ i _ => N - (intOf i).toNat)
      case atStart => exact ⟨0, E6, p, rfl, Nat.zero_le _, rfl, HQ0, hbq, hx⟩
      case round =>
        obtain ⟨b, E6, p, rfl, hb, rfl, HQ, hbq, hx⟩ := hrel
        by_cases hlb : b < N
        · have hlb' : (b : Int) < (N : Int) := by omega
          have HNX := hid (rowQ_next h a b)
          rcases errQ_two (topQ h a ++ rowQ h a b) with e | e
          · have e6 : E6 = 6 := by rw [← HQ.out.1, e]
            subst e6
            have hnil : topQ h a ++ rowQ h a b = [] := errQ_nil (by rw [e]; decide)
            have HNIL := hid hnil
            have KU := hid (KCL.out a b wr hla hlb (h8.trans hx))
            obtain ⟨C, hC⟩ : ∃ C, claH h a b = C := ⟨_, rfl⟩
            rw [hC] at KU HNX
            clear hC e hnil
            obtain ⟨⟨a0, a1, a2⟩, d0, d1, d2⟩ := F5.out wr (h8.trans hx)
            go_wp2_with fail
            refine KU.out.mono ?_
            rintro e w5 ⟨rfl, hx5⟩
            clear KU a0 a1 a2 d0 d1 d2
            have hbq5 := (Below.block hx5 _ (Array.getElem?_eq_some_iff.1 hbq).1).trans hbq
            have hx15 := hx.trans hx5
            cases C with
            | false =>
              have HQ2 : Hid (errQ (topQ h a ++ rowQ h a (b + 1)) = 6 ∧ fstQ (topQ h a ++ rowQ h a (b + 1)) = p) := by unfold Hid; rw [HNX.out]; simp only [Bool.false_eq_true, if_false, List.append_nil]; exact HQ.out
              clear HQ HNX HNIL hbq
              go_wp2
              go_roundw
              case rel => exact ⟨b + 1, 6, p, by go_num, by omega, rfl, HQ2, hbq5, hx15⟩
              case measure => simp [intOf]; omega
            | true =>
              have HQ2 : Hid (errQ (topQ h a ++ rowQ h a (b + 1)) = 0 ∧ fstQ (topQ h a ++ rowQ h a (b + 1)) = ((a : Int), (b : Int))) := by unfold Hid; rw [HNX.out, if_pos rfl, ← List.append_assoc, HNIL.out]; exact ⟨rfl, rfl⟩
              obtain ⟨r0, r1, fr⟩ := rat_cells hbq5
              have hbq6 := rat_put hbq5 (.int .i64 (a : Int)) (.int .i64 (b : Int))
              have hx6 := Ext.setCell (Ext.setCell hx15 (p := ⟨BQ, 0, none⟩) hBQ8 (.int .i64 (a : Int))) (p := ⟨BQ, 1, none⟩) hBQ8 (.int .i64 (b : Int))
              obtain ⟨W6, hW6⟩ : ∃ W, (w5.setCell ⟨BQ, 0, none⟩ (.int .i64 (a : Int))).setCell ⟨BQ, 1, none⟩ (.int .i64 (b : Int)) = W := ⟨_, rfl⟩
              rw [hW6] at hbq6 hx6
              have HW6 := hid hW6
              clear HQ HNX HNIL hbq hbq5 hW6
              go_wp2
              try rw [HW6.out]
              go_roundw
              case rel => exact ⟨b + 1, 0, ((a : Int), (b : Int)), by go_num, by omega, rfl, HQ2, hbq6, hx6⟩
              case measure => simp [intOf]; omega
          · have e6 : E6 = 0 := by rw [← HQ.out.1, e]
            subst e6
            have HQ2 : Hid (errQ (topQ h a ++ rowQ h a (b + 1)) = 0 ∧ fstQ (topQ h a ++ rowQ h a (b + 1)) = p) := by
              unfold Hid
              rw [HNX.out, ← List.append_assoc]
              have q := fstQ_app (m := if claH h a b = true then [((a : Int), (b : Int))] else []) e
              exact ⟨q.2, q.1.trans HQ.out.2⟩
            clear HQ HNX e
            go_wp2
            go_roundw
            case rel => exact ⟨b + 1, 0, p, by go_num, by omega, rfl, HQ2, hbq, hx⟩
            case measure => simp [intOf]; omega
        · have hlb' : ¬ (b : Int) < (N : Int) := by omega
          obtain rfl : b = N := by omega
          have HQ2 : Hid (errQ (topQ h (a + 1)) = E6 ∧ fstQ (topQ h (a + 1)) = p) := by unfold Hid; rw [topQ_next, HN.out]; exact HQ.out
          clear HQ
          go_wp2
          go_roundw
          case rel => exact ⟨a + 1, E6, p, by go_num, by omega, rfl, HQ2, hbq, hx⟩
          case measure => simp [intOf]; omega
    · have hla' : ¬ (a : Int) < (N : Int) := by omega
      have haN : N = a := by omega
      subst haN
      have et : topQ h N = claP h := by rw [← HN.out]; exact topQ_end h
      have hq := HQ.out
      rw [et, ← HFE.out.1, ← HFE.out.2] at hq
      obtain ⟨e1, e2⟩ := hq
      subst e1
      subst e2
      obtain ⟨V9, hV9⟩ : ∃ x : World, x = wr := ⟨_, rfl⟩
      subst hV9
      have h9 := h8.trans hx
      clear et HQ HFE KCL
      have yb := fun w => run_ne_bp w cv.1 cv.2
      obtain ⟨⟨p0, p1⟩, -⟩ := FC.out V9 hx
      obtain ⟨r0, r1, -⟩ := rat_cells hbq
      obtain ⟨c0, c1, c2⟩ := FH.out V9 (hE2.trans h9)
      go_upto_region 25 with fail
      clear p0 p1 r0 r1 c0 c1 c2 yb hbq
      go_upto_if 175 with fail
      go_cut [] (fun wx => Ext V9 wx)
      case first =>
        by_cases hc0 : ce = 0
        · obtain ⟨e7, e8⟩ := HS7.out hc0
          have eP : P = 0 := by rw [← HP.out, e8]; rfl
          subst hc0
          subst e7
          subst eP
          clear HS7 HS6 e8
          go_wp2_with fail
          go_meet
          exact Ext.refl _
        · as_aux_lemma =>
          · have hc0b : (ce == 0) = false := by simp [hc0]
            obtain ⟨e6, e0, esv, era, etr, ehw, elow, elen⟩ := HS6.out hc0
            subst e0
            have hmo12 := HK.out.mo
            have hPM : (P : Int) = h.mo := by rw [← HP.out, esv, elen]; omega
            have hsm : ∀ q ∈ sv, Rsm q := fun q hq => by
              rw [esv] at hq
              obtain ⟨-, hp, l1, l2⟩ := elow q hq
              unfold Rpos at hp
              unfold Rsm
              exact ⟨⟨by omega, l1⟩, by omega, l2⟩
            have KR := refratios_any _ h V9 (HX.out V9 h9) HS.out A14 c14 sv (HSW.out V9 hx) (by rw [HP.out]; omega)
            rw [show ratE h sv = 0 by rw [esv]; exact era, HP.out] at KR
            have KR := hid KR
            have hRT : RtsOK h sv := { len := by rw [HP.out]; exact hPM, pos := fun q hq => by rw [esv] at hq; exact (elow q hq).2.1 }
            have KT : Hid (∀ w', Ext V9 w' → Calls Try.prog 47 #[.agg #[.int .i64 h.mo, .int .i64 h.pk, .slice A7 N k7], .slice A14 P c14] w' fun e w2 => e = .returned (.bool true) ∧ Ext w' w2) := fun w' hw => by
              have q := reftruth_any _ h w' (HX.out w' (h9.trans hw)) hmo12 A14 c14 sv (HSW.out w' (hx.trans hw)) (by rw [HP.out]; exact hPM) hsm
              rw [truthR_is hRT, show truthH h sv = true by rw [esv]; exact etr, HP.out] at q
              exact q
            have HHW : Hid (∀ w ∈ h.ws, holdW w (rtAt sv w.mo) = true) := by unfold Hid; rw [esv]; exact ehw
            have HLOW : Hid (∀ r ∈ sv, isLow r ∧ Rpos r ∧ r.1 ≤ 1000000 ∧ r.2 ≤ 1000000) := by unfold Hid; rw [esv]; exact elow
            have HPM := hid hPM
            have HSM := hid hsm
            have hP12 : P ≤ 12 := by omega
            clear esv era etr ehw elow elen hPM hsm hRT hmo12 e6 HS7 HS6
            obtain ⟨⟨a0, a1, a2⟩, d0, d1, d2⟩ := F5.out V9 h9
            go_wp2_with fail
            refine KR.out.mono ?_
            rintro e U1 ⟨rfl, hu1⟩
            clear KR a0 a1 a2 d0 d1 d2
            obtain ⟨⟨a0, a1, a2⟩, d0, d1, d2⟩ := F5.out U1 (h9.trans hu1)
            go_wp2_with fail
            refine (KT.out U1 hu1).mono ?_
            rintro e U2 ⟨rfl, hu2⟩
            clear KT a0 a1 a2 d0 d1 d2
            have hu12 := hu1.trans hu2
            obtain ⟨⟨a0, a1, a2⟩, d0, d1, d2⟩ := F5.out U2 (h9.trans hu12)
            have HXd : Hid (∀ w', Ext V9 w' → Wgs w' A7 h.ws) := fun w' hw => by
              obtain ⟨A8, c8, e8, h8', -⟩ := HX.out w' (h9.trans hw)
              unfold hval at e8
              injection e8 with e9
              simp only [Array.mk.injEq, List.cons.injEq, Value.slice.injEq] at e9
              rw [e9.2.2.1.1]; exact h8'
            go_wp2
            clear a0 a1 a2 d0 d1 d2
            go_loopw [200] (fun i wr => ∃ k : Nat, i = .int .i64 (k : Int) ∧ k ≤ N ∧ Ext V9 wr) (fun i _ => N - (intOf i).toNat)
            case atStart => exact ⟨0, rfl, Nat.zero_le _, hu12⟩
            case round =>
              obtain ⟨k, rfl, hk, hx3⟩ := hrel
              by_cases hlt : k < N
              · have hlt' : (k : Int) < (N : Int) := by omega
                obtain ⟨x, hxk⟩ := get_of_lt h.ws k (by rw [HN.out]; exact hlt)
                obtain ⟨b, off, e1, g0, g1, g2, g3, g4⟩ := Wgs.at_ (HXd.out wr hx3) hxk
                obtain ⟨W6, hW6⟩ : ∃ W6, wr.alloc (.cells #[.int .i64 x.mo, .int .i64 x.sl, .int .i64 x.sh, .int .i64 x.ml, .int .i64 x.mh] 92) = W6 := ⟨_, rfl⟩
                have hx6 : Ext wr W6 := by rw [← hW6]; exact (Ext.refl _).alloc _
                have bx : W6.heap[wr.heap.size]? = some (.cells #[.int .i64 x.mo, .int .i64 x.sl, .int .i64 x.sh, .int .i64 x.ml, .int .i64 x.mh] 92 (0, 0)) := by rw [← hW6]; exact heap_alloc_new wr _
                subst e1
                obtain ⟨BX, hBX⟩ : ∃ b, wr.heap.size = b := ⟨_, rfl⟩
                have HBX := hid hBX
                rw [hBX] at bx
                clear hBX
                go_upto_region 33 with fail
                try rw [hW6]
                try rw [HBX.out]
                clear hW6 g0 g1 g2 g3 g4 HBX
                have hxm := HK.out.wm x (List.mem_of_getElem? hxk)
                obtain ⟨m2, hm2⟩ : ∃ q : Nat, x.mo = q := ⟨x.mo.toNat, by omega⟩
                have hm2P : m2 < P := by have := HPM.out; omega
                obtain ⟨r, hr⟩ := get_of_lt sv m2 (by rw [HP.out]; exact hm2P)
                obtain ⟨b2, o2, e2, r0, r1⟩ := prs_get (HSW.out W6 (hx.trans (hx3.trans hx6))) hr
                subst e2
                have hm2P' : (m2 : Int) < (P : Int) := by omega
                have KH := holds_any x r
                have hho : holdW x r = true := by
                  have q := HHW.out x (List.mem_of_getElem? hxk)
                  unfold rtAt at q
                  rw [hm2, Int.toNat_natCast, List.getD_eq_getElem?_getD, hr] at q
                  exact q
                have KH := hid fun w' => KH w' (wgM_of HK.out (List.mem_of_getElem? hxk)) (HSM.out r (List.mem_of_getElem? hr))
                rw [hho] at KH
                unfold Wg.val rval at KH
                rw [hm2] at KH
                have FX : Hid (∀ w', Ext W6 w' → (w'.cell? ⟨BX, 0, none⟩ = some (.int .i64 (m2 : Int)) ∧ w'.cell? ⟨BX, 1, none⟩ = some (.int .i64 x.sl) ∧ w'.cell? ⟨BX, 2, none⟩ = some (.int .i64 x.sh) ∧ w'.cell? ⟨BX, 3, none⟩ = some (.int .i64 x.ml) ∧ w'.cell? ⟨BX, 4, none⟩ = some (.int .i64 x.mh)) ∧ w'.cell? ⟨b2, o2 + m2 * 2, none⟩ = some (.int .i64 r.1) ∧ w'.cell? ⟨b2, o2 + m2 * 2 + 1, none⟩ = some (.int .i64 r.2)) := fun w' hw => by
                  have hc := fun i u hu => hw.cell (blk_cells (xs := [.int .i64 x.mo, .int .i64 x.sl, .int .i64 x.sh, .int .i64 x.ml, .int .i64 x.mh]) bx i u hu)
                  exact ⟨⟨by rw [← hm2]; exact hc 0 _ rfl, hc 1 _ rfl, hc 2 _ rfl, hc 3 _ rfl, hc 4 _ rfl⟩, hw.cell r0, hw.cell r1⟩
                have hx36 := hx3.trans hx6
                clear hxk hho hr r0 r1 hxm bx hx3 hx6 hm2
                refine wp_region_shut Ext (fun w' => Ext W6 w') (fun
                  | 6 => some (fun v _ => v = .bool true)
                  | _ => none) (by kernel_rfl) (by kernel_rfl) (fun _ _ h k => h.trans k) ?hThh (Ext.drew (Ext.refl W6)) ?_
                case hThh =>
                  intro i R hR
                  match i, hR with
                  | 6, hR => cases hR; exact fun _ _ _ h _ => h
                refine wM_val ?uhh0 rfl rfl Ext.refl (fun w' hD => ?hhh0) (fun phhh0 => ?nhh0)
                case hhh0 =>
                  obtain ⟨⟨p0, p1, p2, p3, p4⟩, p5, p6⟩ := FX.out w' hD.1
                  go_simp; rfl
                simp only [Act.put, List.setIfInBounds_toArray, List.set_cons_succ, List.set_cons_zero, Nat.reduceAdd]
                refine wM_val ?uhh1 rfl rfl Ext.refl (fun w' hD => ?hhh1) (fun phhh1 => ?nhh1)
                case hhh1 =>
                  obtain ⟨⟨p0, p1, p2, p3, p4⟩, p5, p6⟩ := FX.out w' hD.1
                  go_simp; rfl
                simp only [Act.put, List.setIfInBounds_toArray, List.set_cons_succ, List.set_cons_zero, Nat.reduceAdd]
                refine wM_val ?uhh2 rfl rfl Ext.refl (fun w' hD => ?hhh2) (fun phhh2 => ?nhh2)
                case hhh2 =>
                  obtain ⟨⟨p0, p1, p2, p3, p4⟩, p5, p6⟩ := FX.out w' hD.1
                  go_simp; rfl
                simp only [Act.put, List.setIfInBounds_toArray, List.set_cons_succ, List.set_cons_zero, Nat.reduceAdd]
                refine wM_val ?uhh3 rfl rfl Ext.refl (fun w' hD => ?hhh3) (fun phhh3 => ?nhh3)
                case hhh3 =>
                  obtain ⟨⟨p0, p1, p2, p3, p4⟩, p5, p6⟩ := FX.out w' hD.1
                  go_simp; rfl
                simp only [Act.put, List.setIfInBounds_toArray, List.set_cons_succ, List.set_cons_zero, Nat.reduceAdd]
                refine wM_val ?uhh4 rfl rfl Ext.refl (fun w' hD => ?hhh4) (fun phhh4 => ?nhh4)
                case hhh4 =>
                  obtain ⟨⟨p0, p1, p2, p3, p4⟩, p5, p6⟩ := FX.out w' hD.1
                  go_simp; rfl
                simp only [Act.put, List.setIfInBounds_toArray, List.set_cons_succ, List.set_cons_zero, Nat.reduceAdd]
                refine wM_val ?uhh5 rfl rfl Ext.refl (fun w' hD => ?hhh5) (fun phhh5 => ?nhh5)
                case hhh5 =>
                  obtain ⟨⟨p0, p1, p2, p3, p4⟩, p5, p6⟩ := FX.out w' hD.1
                  go_simp; rfl
                simp only [Act.put, List.setIfInBounds_toArray, List.set_cons_succ, List.set_cons_zero, Nat.reduceAdd]
                refine wM_op _ rfl rfl (opens_call ?fhh6 ?ghh6 (fun w' hD => ?hhh6) (fun w' hD => ?chh6)) (fun v6 hv6 => ?nhh6)
                case hhh6 => go_simp; constructor <;> rfl
                case chh6 =>
                  refine (KH.out w').mono ?_
                  rintro e w2 ⟨rfl, hb⟩
                  exact ⟨_, rfl, hb, rfl⟩
                obtain ⟨_, -, -, rfl⟩ := hv6
                simp only [Act.put, List.setIfInBounds_toArray, List.set_cons_succ, List.set_cons_zero, Nat.reduceAdd]
                refine wM_val ?uhh7 rfl rfl Ext.refl (fun w' hD => ?hhh7) (fun phhh7 => ?nhh7)
                case hhh7 =>
                  obtain ⟨⟨p0, p1, p2, p3, p4⟩, p5, p6⟩ := FX.out w' hD.1
                  go_simp; rfl
                simp only [Act.put, List.setIfInBounds_toArray, List.set_cons_succ, List.set_cons_zero, Nat.reduceAdd]
                refine wM_nil ?_
                intro w9 hw9 hF9
                clear hF9
                clear FX KH
                go_wp2
                go_roundw
                case rel => exact ⟨k + 1, by go_num, by omega, hx36.trans hw9⟩
                case measure => simp [intOf]; omega
              · have hlt' : ¬ (k : Int) < (N : Int) := by omega
                obtain ⟨V10, hV10⟩ : ∃ x : World, x = wr := ⟨_, rfl⟩
                subst hV10
                go_wp2
                go_loopw [215] (fun i wr => ∃ k : Nat, i = .int .i64 (k : Int) ∧ k ≤ P ∧ Ext V9 wr) (fun i _ => P - (intOf i).toNat)
                case atStart => exact ⟨0, rfl, Nat.zero_le _, hx3⟩
                case round =>
                  obtain ⟨q, rfl, hq, hx4⟩ := hrel
                  by_cases hlq : q < P
                  · have hlq' : (q : Int) < (P : Int) := by omega
                    obtain ⟨r, hr⟩ := get_of_lt sv q (by rw [HP.out]; exact hlq)
                    obtain ⟨b2, o2, e2, r0, r1⟩ := prs_get (HSW.out wr (hx.trans hx4)) hr
                    subst e2
                    obtain ⟨hlow, hpos, l1, l2⟩ := HLOW.out r (List.mem_of_getElem? hr)
                    have KL := hid fun w' => reflow_any r.1 r.2 w' ⟨hpos.1, l1⟩ ⟨hpos.2, l2⟩
                    unfold isLow at hlow
                    rw [hlow] at KL
                    unfold rval at KL
                    go_upto_region 39 with fail
                    obtain ⟨W6, hW6⟩ : ∃ W6, wr.alloc (.cells #[.int .i64 r.1, .int .i64 r.2] 43) = W6 := ⟨_, rfl⟩
                    have hx6 : Ext wr W6 := by rw [← hW6]; exact (Ext.refl _).alloc _
                    have bx : W6.heap[wr.heap.size]? = some (.cells #[.int .i64 r.1, .int .i64 r.2] 43 (0, 0)) := by rw [← hW6]; exact heap_alloc_new wr _
                    try rw [hW6]
                    obtain ⟨BX, hBX⟩ : ∃ b, wr.heap.size = b := ⟨_, rfl⟩
                    rw [hBX] at bx
                    try rw [hBX]
                    have FX : Hid (∀ w', Ext W6 w' → w'.cell? ⟨BX, 0, none⟩ = some (.int .i64 r.1) ∧ w'.cell? ⟨BX, 1, none⟩ = some (.int .i64 r.2)) := fun w' hw => by
                      obtain ⟨z0, z1, -⟩ := rat_cells bx
                      exact ⟨hw.cell z0, hw.cell z1⟩
                    have hx46 := hx4.trans hx6
                    clear hr r0 r1 hlow hpos l1 l2 hW6 hBX bx hx4 hx6
                    refine wp_region_shut Ext (fun w' => Ext W6 w') (fun
                      | 5 => some (fun v _ => v = .agg #[.int .i64 r.1, .int .i64 r.2])
                      | _ => none) (by kernel_rfl) (by kernel_rfl) (fun _ _ h k => h.trans k) ?hThl (Ext.drew (Ext.refl W6)) ?_
                    case hThl =>
                      intro i R hR
                      match i, hR with
                      | 5, hR => cases hR; exact fun _ _ _ h _ => h
                    refine wM_val ?uhl0 rfl rfl Ext.refl (fun w' hD => ?hhl0) (fun phhl0 => ?nhl0)
                    case hhl0 =>
                      obtain ⟨p0, p1⟩ := FX.out w' hD.1
                      go_simp; rfl
                    simp only [Act.put, List.setIfInBounds_toArray, List.set_cons_succ, List.set_cons_zero, Nat.reduceAdd]
                    refine wM_val ?uhl1 rfl rfl Ext.refl (fun w' hD => ?hhl1) (fun phhl1 => ?nhl1)
                    case hhl1 =>
                      obtain ⟨p0, p1⟩ := FX.out w' hD.1
                      go_simp; rfl
                    simp only [Act.put, List.setIfInBounds_toArray, List.set_cons_succ, List.set_cons_zero, Nat.reduceAdd]
                    refine wM_val ?uhl2 rfl rfl Ext.refl (fun w' hD => ?hhl2) (fun phhl2 => ?nhl2)
                    case hhl2 =>
                      obtain ⟨p0, p1⟩ := FX.out w' hD.1
                      go_simp; rfl
                    simp only [Act.put, List.setIfInBounds_toArray, List.set_cons_succ, List.set_cons_zero, Nat.reduceAdd]
                    refine wM_val ?uhl3 rfl rfl Ext.refl (fun w' hD => ?hhl3) (fun phhl3 => ?nhl3)
                    case hhl3 =>
                      obtain ⟨p0, p1⟩ := FX.out w' hD.1
                      go_simp; rfl
                    simp only [Act.put, List.setIfInBounds_toArray, List.set_cons_succ, List.set_cons_zero, Nat.reduceAdd]
                    refine wM_val ?uhl4 rfl rfl Ext.refl (fun w' hD => ?hhl4) (fun phhl4 => ?nhl4)
                    case hhl4 =>
                      obtain ⟨p0, p1⟩ := FX.out w' hD.1
                      go_simp; rfl
                    simp only [Act.put, List.setIfInBounds_toArray, List.set_cons_succ, List.set_cons_zero, Nat.reduceAdd]
                    refine wM_op _ rfl rfl (opens_call ?fhl5 ?ghl5 (fun w' hD => ?hhl5) (fun w' hD => ?chl5)) (fun v5 hv5 => ?nhl5)
                    case hhl5 => go_simp; constructor <;> rfl
                    case chl5 =>
                      refine (KL.out w').mono ?_
                      rintro e w2 ⟨rfl, hb⟩
                      exact ⟨_, rfl, hb, rfl⟩
                    obtain ⟨_, -, -, rfl⟩ := hv5
                    simp only [Act.put, List.setIfInBounds_toArray, List.set_cons_succ, List.set_cons_zero, Nat.reduceAdd]
                    refine wM_val (.bool false) rfl rfl Ext.refl (fun w' hD => ?hhl6) (fun phl6 => ?nhl6)
                    case hhl6 =>
                      have e := run_ne_rt w' r.1 r.2
                      go_simp
                    simp only [Act.put, List.setIfInBounds_toArray, List.set_cons_succ, List.set_cons_zero, Nat.reduceAdd]
                    refine wM_nil ?_
                    intro w9 hw9 hF9
                    clear hF9
                    clear FX KL
                    go_wp2
                    go_roundw
                    case rel => exact ⟨q + 1, by go_num, by omega, hx46.trans hw9⟩
                    case measure => simp [intOf]; omega
                  · have hlq' : ¬ (q : Int) < (P : Int) := by omega
                    go_wp2_with fail
                    go_meet
                    exact hx4
      case rest =>
        as_aux_lemma =>
         have h10 := h9.trans hcut
         have hx10 := hx.trans hcut
         clear hcut HS7 HS6 hx h9
         obtain ⟨wA, hwA⟩ : ∃ x : World, x = wc := ⟨_, rfl⟩
         subst hwA
         go_upto_region 43 with fail
         obtain ⟨Q10, hQ10⟩ : ∃ P, (wA.alloc (.cells #[.int .i64 0, .int .i64 0] 43)).alloc (.cells #[.int .i64 0, .int .i64 0] 43) = P := ⟨_, rfl⟩
         have xQ10 : Ext wA Q10 := by rw [← hQ10]; exact (Ext.refl _).alloc _ |>.alloc _
         have bza : Q10.heap[wA.heap.size]? = some (.cells #[.int .i64 0, .int .i64 0] 43 (0, 0)) := by rw [← hQ10]; exact (Below.heap_alloc _ _ _ (by simp)).trans (heap_alloc_new wA _)
         have bzb : Q10.heap[wA.heap.size + 1]? = some (.cells #[.int .i64 0, .int .i64 0] 43 (0, 0)) := by
           rw [← hQ10]
           have q := heap_alloc_new (wA.alloc (.cells #[.int .i64 0, .int .i64 0] 43)) (.cells #[.int .i64 0, .int .i64 0] 43)
           rw [World.size_alloc] at q
           exact q
         try rw [hQ10]
         obtain ⟨BZ, hBZ⟩ : ∃ b, wA.heap.size = b := ⟨_, rfl⟩
         have hBZc : wA.heap.size ≤ BZ := by omega
         rw [hBZ] at bza bzb
         try rw [hBZ]
         clear hQ10 hBZ
         have h11 := h10.trans xQ10
         have hmo12 := HK.out.mo
         obtain ⟨IN, hIN⟩ : ∃ b, decide (0 ≤ mo ∧ mo < h.mo) = b := ⟨_, rfl⟩
         have HIN := hid hIN
         clear hIN
         go_upto_region 44 with fail
         go_cut [234] (fun s wx => s = .bool IN ∧ Q10 = wx)
         case first =>
           obtain ⟨c0, c1, c2⟩ := FH.out Q10 (hE2.trans h11)
           by_cases m1 : 0 ≤ mo
           · have m1' : mo ≥ 0 := m1
             by_cases m2 : mo < h.mo
             · have e : IN = true := by rw [← HIN.out]; exact decide_eq_true ⟨m1, m2⟩
               subst e
               go_wp2_with fail
               go_meet
               exact ⟨rfl, rfl⟩
             · have e : IN = false := by rw [← HIN.out]; exact decide_eq_false (fun q => m2 q.2)
               subst e
               go_wp2_with fail
               go_meet
               exact ⟨rfl, rfl⟩
           · have m1' : ¬ mo ≥ 0 := m1
             have e : IN = false := by rw [← HIN.out]; exact decide_eq_false (fun q => m1 q.1)
             subst e
             go_wp2_with fail
             go_meet
             exact ⟨rfl, rfl⟩
         case rest =>
           obtain ⟨rfl, hwq⟩ := hcut
           subst hwq
           go_upto_if 234 with fail
           go_cut [33] (fun s33 wx => s33 = .int .i64 be ∧ wx.heap[BZ]? = some (.cells #[.int .i64 bl.1, .int .i64 bl.2] 43 (0, 0)) ∧ wx.heap[BZ + 1]? = some (.cells #[.int .i64 bu.1, .int .i64 bu.2] 43 (0, 0)) ∧ Ext wA wx)
           case first =>
             as_aux_lemma =>
              obtain hIN | hIN : IN = true ∨ IN = false := by cases IN <;> simp
              · subst hIN
                obtain ⟨m1, m2⟩ := of_decide_eq_true HIN.out
                have KBr := refbounds_any _ h mo Q10 (HX.out Q10 h11) HK.out ⟨m1, m2⟩
                rw [HBL.out, HBU.out, HBE.out] at KBr
                unfold rval at KBr
                have KBr := hid KBr
                obtain ⟨⟨a0, a1, a2⟩, d0, d1, d2⟩ := F5.out Q10 h11
                go_wp2_with fail
                refine KBr.out.mono ?_
                rintro e w11 ⟨rfl, hx11⟩
                clear KBr a0 a1 a2 d0 d1 d2
                have bza' := (Below.block hx11 _ (Array.getElem?_eq_some_iff.1 bza).1).trans bza
                have bzb' := (Below.block hx11 _ (Array.getElem?_eq_some_iff.1 bzb).1).trans bzb
                obtain ⟨t0, t1, tf⟩ := rat_cells bza'
                obtain ⟨v0, v1, vf⟩ := rat_cells bzb'
                obtain ⟨p1, p2, p3⟩ := rat_put2 bza' bzb' (by omega) (xQ10.trans hx11) hBZc (by omega) (.int .i64 bl.1) (.int .i64 bl.2) (.int .i64 bu.1) (.int .i64 bu.2)
                obtain ⟨W12, hW12⟩ : ∃ W, ((((w11.setCell ⟨BZ, 0, none⟩ (.int .i64 bl.1)).setCell ⟨BZ, 1, none⟩ (.int .i64 bl.2)).setCell ⟨BZ + 1, 0, none⟩ (.int .i64 bu.1)).setCell ⟨BZ + 1, 1, none⟩ (.int .i64 bu.2)) = W := ⟨_, rfl⟩
                rw [hW12] at p1 p2 p3
                have HW12 := hid hW12
                clear hW12 bza bzb bza' bzb'
                go_wp2_with fail
                try rw [HW12.out]
                go_meet
                exact ⟨rfl, p1, p2, p3⟩
              · subst hIN
                have m12 := of_decide_eq_false HIN.out
                have hno : moOK h mo = false := by
                  unfold moOK
                  rw [Bool.eq_false_iff]
                  intro q
                  have := inB_iff.1 q
                  omega
                have e1 : be = 1 := by rw [← HBE.out]; unfold bndE; rw [if_neg (by simp [HRR.out]), if_pos hno]
                have e2 : bl = (0, 0) := by rw [← HBL.out]; unfold bndL; rw [HBE.out, e1]; rfl
                have e3 : bu = (0, 0) := by rw [← HBU.out]; unfold bndU; rw [HBE.out, e1]; rfl
                have hfin := (⟨bza, bzb, xQ10⟩ : _ ∧ _ ∧ _)
                have HFIN := hid hfin
                clear hno hfin bza bzb m12
                subst e1
                subst e2
                subst e3
                go_wp2_with fail
                go_meet
                exact ⟨rfl, HFIN.out.1, HFIN.out.2.1, HFIN.out.2.2⟩
           case rest =>
             as_aux_lemma =>
              obtain ⟨rfl, hz1, hz2, hcx⟩ := hcut
              obtain ⟨V13, hV13⟩ : ∃ x : World, x = wc := ⟨_, rfl⟩
              subst hV13
              have h13 := h10.trans hcx
              have hx13 := hx10.trans hcx
              clear hcx bza bzb xQ10 h11
              have KMr := refmeat_any _ h mo sh V13 (HX.out V13 h13) HK.out
              rw [HML.out, HMU.out, HME.out] at KMr
              have KMr := hid KMr
              obtain ⟨⟨a0, a1, a2⟩, d0, d1, d2⟩ := F5.out V13 h13
              go_wp2_with fail
              refine KMr.out.mono ?_
              rintro e V14 ⟨rfl, hx14⟩
              clear KMr a0 a1 a2 d0 d1 d2
              go_upto_region 47 with fail
              obtain ⟨Q14, hQ14⟩ : ∃ P, V14.alloc (.cells #[.int .i64 ml, .int .i64 mu] 47) = P := ⟨_, rfl⟩
              have xQ14 : Ext V14 Q14 := by rw [← hQ14]; exact (Ext.refl _).alloc _
              have bQ14 : Q14.heap[V14.heap.size]? = some (.cells #[.int .i64 ml, .int .i64 mu] 47 (0, 0)) := by rw [← hQ14]; exact heap_alloc_new V14 _
              try rw [hQ14]
              obtain ⟨BM, hBM⟩ : ∃ b, V14.heap.size = b := ⟨_, rfl⟩
              rw [hBM] at bQ14
              try rw [hBM]
              clear hQ14 hBM
              have hx1314 := hx14.trans xQ14
              have h14 := h13.trans hx1314
              obtain ⟨-, ⟨⟨p2, p3⟩, p4, p5⟩, p6, p7⟩ := FC.out Q14 (hx13.trans hx1314)
              obtain ⟨q2, q3, -⟩ := rat_cells ((Below.block hx1314 _ (Array.getElem?_eq_some_iff.1 hz1).1).trans hz1)
              obtain ⟨q4, q5, -⟩ := rat_cells ((Below.block hx1314 _ (Array.getElem?_eq_some_iff.1 hz2).1).trans hz2)
              obtain ⟨q6, q7, -⟩ := rat_cells bQ14
              have y1 := fun w => run_ne_rt w bl.1 bl.2
              have y2 := fun w => run_ne_rt w bu.1 bu.2
              have y3 := fun w => run_ne_sp w ml mu
              have hmb : 0 ≤ ml ∧ ml ≤ 2000000000000 := by rw [← HML.out]; exact meatL_bound h mo sh
              have HKE2 : Hid (ke = if inB mt 0 1000 = false then 3 else me) := by unfold Hid; rw [← HKE.out]; unfold keptE; rw [if_neg (by simp [HRR.out]), HME.out]
              have HKV2 : Hid (kv = if ke = 0 then max 0 (ml - mt) else 0) := by unfold Hid; rw [← HKV.out]; unfold keptV; rw [HKE.out, HML.out]
              have KS := hid (same_yes _ _ h Q14 (HO.out Q14 h14) (HR.out Q14 (hE2.trans h14)) HS.out)
              obtain ⟨⟨a0, a1, a2⟩, d0, d1, d2⟩ := F5.out Q14 h14
              obtain ⟨c0, c1, c2⟩ := FH.out Q14 (hE2.trans h14)
              clear hz1 hz2 bQ14 HKE HKV HML HMU HME HBL HBU HBE FC HSW HSV HSE HCV HCE
              go_upto_region 49 with fail
              clear y1 y2 y3 p2 p3 p4 p5 p6 p7 q2 q3 q4 q5
              by_cases g1 : mt < 0
              · have e1 : ke = 3 := by rw [HKE2.out, if_pos (by rw [Bool.eq_false_iff]; intro q; have := inB_iff.1 q; omega)]
                subst e1
                obtain rfl : kv = 0 := HKV2.out
                clear HKE2 HKV2
                go_wp2_with fail
                refine KS.out.mono ?_
                rintro e X1 ⟨rfl, hy1⟩
                clear KS a0 a1 a2 d0 d1 d2 c0 c1 c2
                go_wp2_with fail
                refine (awake_any _).mono ?_
                rintro e wq ⟨rfl, hxq⟩
                go_wp2
                go_ret
                exact ⟨rfl, hxV.trans (h14.trans (hy1.trans hxq))⟩
              · by_cases g2 : mt > 1000
                · have e1 : ke = 3 := by rw [HKE2.out, if_pos (by rw [Bool.eq_false_iff]; intro q; have := inB_iff.1 q; omega)]
                  subst e1
                  obtain rfl : kv = 0 := HKV2.out
                  clear HKE2 HKV2
                  go_wp2_with fail
                  refine KS.out.mono ?_
                  rintro e X1 ⟨rfl, hy1⟩
                  clear KS a0 a1 a2 d0 d1 d2 c0 c1 c2
                  go_wp2_with fail
                  refine (awake_any _).mono ?_
                  rintro e wq ⟨rfl, hxq⟩
                  go_wp2
                  go_ret
                  exact ⟨rfl, hxV.trans (h14.trans (hy1.trans hxq))⟩
                · have e1 : ke = me := by rw [HKE2.out, if_neg (by rw [inB_iff.2 ⟨by omega, by omega⟩]; simp)]
                  subst e1
                  clear HKE2
                  by_cases g3 : ke = 0
                  · subst g3
                    have hkv : kv = max 0 (ml - mt) := HKV2.out
                    obtain ⟨d, hd⟩ : ∃ d, ml - mt = d := ⟨_, rfl⟩
                    have wm : IntKind.i64.wrap (ml - mt) = d := by rw [hd]; exact IntWalk.i64_in _ ⟨by omega, by omega⟩
                    rw [hd] at hkv
                    clear HKV2 hd hmb
                    by_cases g4 : 0 < d
                    · have e1 : max 0 d = d := by omega
                      have e1b : (if (0 : Int) < d then d else 0) = d := if_pos g4
                      rw [e1] at hkv
                      subst hkv
                      go_wp2_with fail
                      refine KS.out.mono ?_
                      rintro e X1 ⟨rfl, hy1⟩
                      clear KS a0 a1 a2 d0 d1 d2 c0 c1 c2
                      go_wp2_with fail
                      refine (awake_any _).mono ?_
                      rintro e wq ⟨rfl, hxq⟩
                      go_wp2
                      go_ret
                      exact ⟨rfl, hxV.trans (h14.trans (hy1.trans hxq))⟩
                    · have e1 : max 0 d = 0 := by omega
                      have e1b : (if (0 : Int) < d then d else 0) = 0 := if_neg g4
                      rw [e1] at hkv
                      subst hkv
                      go_wp2_with fail
                      refine KS.out.mono ?_
                      rintro e X1 ⟨rfl, hy1⟩
                      clear KS a0 a1 a2 d0 d1 d2 c0 c1 c2
                      go_wp2_with fail
                      refine (awake_any _).mono ?_
                      rintro e wq ⟨rfl, hxq⟩
                      go_wp2
                      go_ret
                      exact ⟨rfl, hxV.trans (h14.trans (hy1.trans hxq))⟩
                  · have g3b : (ke == 0) = false := by simp [g3]
                    obtain rfl : kv = 0 := by rw [HKV2.out, if_neg g3]
                    clear HKV2
                    go_wp2_with fail
                    refine KS.out.mono ?_
                    rintro e X1 ⟨rfl, hy1⟩
                    clear KS a0 a1 a2 d0 d1 d2 c0 c1 c2
                    go_wp2_with fail
                    refine (awake_any _).mono ?_
                    rintro e wq ⟨rfl, hxq⟩
                    go_wp2
                    go_ret
                    exact ⟨rfl, hxV.trans (h14.trans (hy1.trans hxq))⟩
end Go.Proofs.Ytjnobdcbbboeeaa
