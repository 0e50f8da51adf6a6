/- Walks of everyone, opened, clash, verdict, told, asked. Printed by my gen_open.py. -/
import Derived.Test.YtgnjhaomlbkgcaaWWork
import Derived.Test.YtgnjhaomlbkgcaaWGap
import Derived.Test.YtgnjhaomlbkgcaaRegion2
import Derived.Test.YtgnjhaomlbkgcaaWCheck
namespace Go.Proofs.Ytgnjhaomlbkgcaa
open Go Go.RowKit Go.Shelf
set_option linter.unusedVariables false
set_option linter.unusedSimpArgs false

theorem ext_up (w : World) : Up Ext (fun w' => Ext w w') := fun _ _ h k => h.trans k

theorem everyone_any (w : World) : Calls Try.prog 134 #[] w fun e w' => e = .returned (.agg #[.func (.func 148) #[] #[]]) ∧ Ext w w' := by
  go_enter Try.func134, Try.ntmps134
  go_wp2
  go_returns
  exact ⟨rfl, Ext.alloc (Ext.refl _) _⟩

theorem everyone1_any (v : Value) (w : World) : Calls Try.prog 148 #[v] w fun e w' => e = .returned (.bool true) ∧ Ext w w' := by
  go_enter Try.func148, Try.ntmps148
  go_wp2
  go_returns
  exact ⟨rfl, Ext.refl _⟩
theorem everyone_fn (w : World) : FnP Try.prog (.func (.func 148) #[] #[]) w IntR anyx allT :=
  ⟨148, #[], #[], rfl, enters_of Try.func148 (by kernel_rfl) rfl, fun _ v W _ _ _ => everyone1_any v W⟩

/-! clash -/
theorem clash_any (v : Value) (c : Cs) (g : Mat) (w : World) (h : DeskR w v c g) : Calls Try.prog 88 #[v] w fun e w' => e = .returned (.bool (clashM g)) ∧ w' = w := by
  obtain ⟨D, A1, c1, A2, c2, rfl, hd, _, _⟩ := h
  have HF : Hid (clashM g = ((List.range 8).drop 0).any fun a => decide (g a a < 0)) := rfl
  generalize hF : clashM g = F at HF ⊢
  clear hF
  go_enter Try.func88, Try.ntmps88
  go_wp2
  go_loop [4] (fun s => ∃ a : Nat, a ≤ 8 ∧ s = .int .i64 a ∧ Hid (F = ((List.range 8).drop a).any fun a => decide (g a a < 0))) (fun i => 8 - (intOf i).toNat)
  case atStart => exact ⟨0, Nat.zero_le _, rfl, HF⟩
  case round =>
    obtain ⟨a, ha, rfl, HF⟩ := hrel
    by_cases hlt : a < 8
    · have hlt' : (a : Int) < 8 := by omega
      have hcell := hd.at_ hlt hlt
      have HD : Hid (F = (decide (g a a < 0) || ((List.range 8).drop (a + 1)).any fun a => decide (g a a < 0))) := by
        unfold Hid
        rw [HF.out, List.drop_eq_getElem_cons (by simpa using hlt)]
        simp
      by_cases hz : g a a < 0
      · go_wp2
        go_ret
        exact ⟨ret_of (bool_of (by rw [HD.out]; simp [hz])), rfl⟩
      · go_wp2
        go_round
        case rel => exact ⟨a + 1, by omega, by go_num, by unfold Hid; rw [HD.out]; simp [hz]⟩
        case measure => simp [intOf]; omega
    · have hlt' : ¬ (a : Int) < 8 := by omega
      go_wp2
      go_ret
      exact ⟨ret_of (bool_of (by rw [HF.out, show a = 8 by omega]; rfl)), rfl⟩

/-! verdict -/
theorem verdict_any (v : Value) (c : Cs) (g : Mat) (w : World) (h : DeskR w v c g) (a b : Nat) (ha : a < 8) (hb : b < 8) : Calls Try.prog 82 #[v, .int .i64 a, .int .i64 b] w fun e w' => e = .returned (.int .i64 (verdictM g a b)) ∧ w' = w := by
  obtain ⟨D, A1, c1, A2, c2, rfl, hd, _, _⟩ := h
  have h1 := hd.at_ ha hb
  have h2 := hd.at_ hb ha
  have ha' : (a : Int) < 8 := by omega
  have hb' : (b : Int) < 8 := by omega
  go_enter Try.func82, Try.ntmps82
  unfold verdictM
  by_cases q1 : g b a < 0
  · go_wp2
    go_ret
    exact ⟨ret_of (int_of (by simp [q1])), rfl⟩
  · by_cases q2 : g a b ≤ 0
    · go_wp2
      go_ret
      exact ⟨ret_of (int_of (by simp [q1, q2])), rfl⟩
    · go_wp2
      go_ret
      exact ⟨ret_of (int_of (by simp [q1, q2])), rfl⟩

/-! opened -/
set_option maxRecDepth 100000 in
set_option maxHeartbeats 1000000 in
theorem opened_any (v : Value) (c : Cs) (w : World) (hc : CsR w v c) (hs : c.sized) :
    Calls Try.prog 87 #[v] w fun e w' => ∃ r, e = .returned (.tuple #[r, .int .i64 (checkC c)]) ∧ Ext w w' ∧ (checkC c = 0 → DeskR w' r c (gapsM allT c)) ∧ (checkC c ≠ 0 → r = .pointer none) := by
  have hc' := hc
  obtain ⟨A1, c1, A2, c2, rfl, hB, hC⟩ := hc
  obtain ⟨T, hT⟩ : ∃ T, checkC c = T := ⟨_, rfl⟩
  have HT := hid hT
  rw [HT.out]
  clear hT
  go_enter Try.func87, Try.ntmps87
  go_wp2_with fail
  have hx0 : Ext w (w.alloc (.cells #[.int .i64 c.ev, .slice A1 c.bs.length c1, .int .i64 c.wi, .slice A2 c.cl.length c2] 26)) := Ext.alloc (Ext.refl w) _
  refine (check_any _ c _ (hc'.ext hx0) hs).mono ?_
  rintro e w1 ⟨rfl, hb1⟩
  have hx1 := hx0.trans hb1
  have kc0 := hb1.cell (p := ⟨w.heap.size, 0, none⟩) (u := .int .i64 c.ev) (by simp [go_sem])
  have kc1 := hb1.cell (p := ⟨w.heap.size, 1, none⟩) (u := .slice A1 c.bs.length c1) (by simp [go_sem])
  have kc2 := hb1.cell (p := ⟨w.heap.size, 2, none⟩) (u := .int .i64 c.wi) (by simp [go_sem])
  have kc3 := hb1.cell (p := ⟨w.heap.size, 3, none⟩) (u := .slice A2 c.cl.length c2) (by simp [go_sem])
  rw [HT.out]
  by_cases h0 : T = 0
  · have H0 : Hid (checkC c = 0) := HT.out.trans h0
    subst h0
    go_wp2
    refine wp_region_opens Ext (fun w' => Ext w1 w') (fun | 1 => some (fun v _ => v = .agg #[.func (.func 148) #[] #[]]) | 2 => some (fun v w => DeskR w v c (gapsM allT c)) | _ => none) (by kernel_rfl) (by kernel_rfl) (ext_up w1) ?hT (Ext.drew (Ext.refl w1)) ?_
    case hT =>
      intro i R hR
      match i, hR with
      | 1, hR => cases hR; exact fun _ _ _ h _ => h
      | 2, hR => cases hR; exact fun _ _ _ h k => h.ext k
    have FX0 : ∀ w', Ext w1 w' → w'.cell? ⟨w.heap.size, 0, none⟩ = some (.int .i64 c.ev) ∧ w'.cell? ⟨w.heap.size, 1, none⟩ = some (.slice A1 c.bs.length c1) ∧ w'.cell? ⟨w.heap.size, 2, none⟩ = some (.int .i64 c.wi) ∧ w'.cell? ⟨w.heap.size, 3, none⟩ = some (.slice A2 c.cl.length c2) :=
      fun w' h => ⟨h.cell kc0, h.cell kc1, h.cell kc2, h.cell kc3⟩
    have FX := hid FX0
    clear FX0
    refine wpM_val ?u0 rfl rfl Ext.refl (fun w' hD => ?h0) ?n0
    case h0 =>
      obtain ⟨d0, d1, d2, d3⟩ := FX.out w' hD.1
      go_simp; rfl
    simp only [Act.put, List.setIfInBounds_toArray, List.set_cons_succ, List.set_cons_zero, Nat.reduceAdd]
    refine wpM_op _ rfl rfl (opens_call ?f1 ?g1 (fun w' hD => ?h1) (fun w' hD => ?c1)) (fun v1 hv1 => ?n1)
    case h1 => go_simp; constructor <;> rfl
    case c1 =>
      refine (everyone_any w').mono ?_
      rintro e w2 ⟨rfl, hb⟩
      exact ⟨_, rfl, hb, rfl⟩
    obtain ⟨_, _, _, rfl⟩ := hv1
    simp only [Act.put, List.setIfInBounds_toArray, List.set_cons_succ, List.set_cons_zero, Nat.reduceAdd]
    refine wpM_op _ rfl rfl (opens_call ?f2 ?g2 (fun w' hD => ?h2) (fun w' hD => ?c2)) (fun v2 hv2 => ?n2)
    case h2 => go_simp; constructor <;> rfl
    case c2 =>
      refine (worked_any _ _ (.func (.func 148) #[] #[]) c allT w' rfl ((hc'.ext hx1).ext hD.1) (everyone_fn w') (checkC_bd H0.out) (checkC_52 H0.out) hs).mono ?_
      rintro e w2 ⟨r, rfl, hd, hb⟩
      exact ⟨_, rfl, hb, hd⟩
    simp only [Act.put, List.setIfInBounds_toArray, List.set_cons_succ, List.set_cons_zero, Nat.reduceAdd]
    refine wpM_val ?u3 rfl rfl Ext.refl (fun w' hD => ?h3) ?n3
    case h3 =>
      obtain ⟨d0, d1, d2, d3⟩ := FX.out w' hD.1
      go_simp; rfl
    simp only [Act.put, List.setIfInBounds_toArray, List.set_cons_succ, List.set_cons_zero, Nat.reduceAdd]
    refine wpM_val ?u4 rfl rfl Ext.refl (fun w' hD => ?h4) ?n4
    case h4 =>
      obtain ⟨d0, d1, d2, d3⟩ := FX.out w' hD.1
      go_simp; rfl
    simp only [Act.put, List.setIfInBounds_toArray, List.set_cons_succ, List.set_cons_zero, Nat.reduceAdd]
    refine wpM_nil ?_
    intro w9 hw9 hF9
    have hr : DeskR w9 v2 c (gapsM allT c) := (hF9 2).2
    go_wp2
    go_ret2
    exact ⟨v2, rfl, hx1.trans hw9, hr⟩
  · have H0 := hid h0
    go_wp2
    go_ret2
    exact ⟨.pointer none, rfl, hx1, fun h => absurd h H0.out, fun _ => rfl⟩

/-! told -/
set_option maxRecDepth 100000 in
set_option maxHeartbeats 1000000 in
theorem told_any (v : Value) (c : Cs) (w : World) (hc : CsR w v c) (hs : c.sized) :
    Calls Try.prog 85 #[v] w fun e w' => ∃ r, e = .returned (.tuple #[r, .int .i64 (toldC c)]) ∧ Ext w w' ∧ (toldC c = 0 → DeskR w' r c (gapsM allT c)) ∧ (toldC c ≠ 0 → r = .pointer none) := by
  have hc' := hc
  obtain ⟨A1, c1, A2, c2, rfl, hB, hC⟩ := hc
  have HT : Hid (toldC c = if checkC c = 0 then (if clashM (gapsM allT c) then 7 else 0) else checkC c) := rfl
  generalize hT : toldC c = T at HT ⊢
  clear hT
  go_enter Try.func85, Try.ntmps85
  go_wp2_with fail
  have hx0 : Ext w (w.alloc (.cells #[.int .i64 c.ev, .slice A1 c.bs.length c1, .int .i64 c.wi, .slice A2 c.cl.length c2] 26)) := Ext.alloc (Ext.refl w) _
  refine (opened_any _ c _ (hc'.ext hx0) hs).mono ?_
  rintro e w1 ⟨r, rfl, hb1, hr1, hr2⟩
  have hx1 := hx0.trans hb1
  by_cases h0 : checkC c = 0
  · have hr := hr1 h0
    have HT2 : Hid (T = if clashM (gapsM allT c) then 7 else 0) := by unfold Hid; rw [HT.out, if_pos h0]
    clear hr1 hr2
    rw [h0]
    clear h0 HT
    go_wp2_with fail
    refine (clash_any _ c _ _ hr).mono ?_
    rintro e w2 ⟨rfl, rfl⟩
    cases hq : clashM (gapsM allT c)
    · have HQ : Hid (T = 0) := by unfold Hid; rw [HT2.out, hq]; rfl
      clear hq
      go_wp2
      go_ret2
      exact ⟨r, by rw [HQ.out]; rfl, hx1, fun _ => hr, fun h => absurd HQ.out h⟩
    · have HQ : Hid (T = 7) := by unfold Hid; rw [HT2.out, hq]; rfl
      clear hq
      go_wp2
      go_ret2
      exact ⟨.pointer none, by rw [HQ.out]; rfl, hx1, fun h => (by rw [HQ.out] at h; cases h), fun _ => rfl⟩
  · have HT2 : Hid (T = checkC c) := by unfold Hid; rw [HT.out, if_neg h0]
    have hr := hr2 h0
    subst hr
    clear hr1 hr2
    have H0 := hid h0
    generalize hE : checkC c = E at *
    clear hE
    go_wp2
    go_ret2
    exact ⟨.pointer none, by rw [HT2.out]; rfl, hx1, fun h => absurd (HT2.out.symm.trans h) H0.out, fun _ => rfl⟩
end Go.Proofs.Ytgnjhaomlbkgcaa
