/- The walk of Needed. Printed by my gen_needed.py. -/
import Derived.Test.YtgnjhaomlbkgcaaWLiars2
namespace Go.Proofs.Ytgnjhaomlbkgcaa
open Go Go.RowKit Go.Shelf
set_option linter.unusedVariables false
set_option linter.unusedSimpArgs false

set_option maxRecDepth 100000 in
set_option maxHeartbeats 2000000 in
theorem needed1_fn (w : World) (B Ba Bb : Nat) (c : Cs) (a b : Nat) (ha : a < 8) (hb : b < 8) (hB : CaseAt w B c) (hBa : w.cell? ⟨Ba, 0, none⟩ = some (.int .i64 (a : Int))) (hBb : w.cell? ⟨Bb, 0, none⟩ = some (.int .i64 (b : Int))) (h0 : checkC c = 0) (hs : c.sized) :
    FnP Try.prog (.func (.func 115) #[] #[.pointer (some ⟨B, 0, none⟩), .pointer (some ⟨Ba, 0, none⟩), .pointer (some ⟨Bb, 0, none⟩)]) w IntsR (fun l => l.length ≤ 6) (neededP c a b) := by
  refine ⟨_, _, _, rfl, enters_of Try.func115 (by kernel_rfl) rfl, fun l v2 W hl hW hR => ?_⟩
  obtain ⟨A, k, rfl, hI⟩ := hR
  obtain ⟨A1, c1, A2, c2, e0, e1, e2, e3, hBo, hCl⟩ := hB.kc hW
  have hea := hW.cell hBa
  have heb := hW.cell hBb
  have hl63 : l.length ≤ 9223372036854775807 := by omega
  have H0 := hid h0
  have HP : Hid (neededP c a b l = (verdictM (gapsM (fun n => memI n l) c) a b == 1)) := rfl
  generalize hF : neededP c a b l = F at HP ⊢
  clear h0 hB hBa hBb hF
  show Calls _ _ #[_, _, _, _] _ _
  go_enter Try.func115, Try.ntmps115
  go_wp2
  have hxa : Ext W (W.alloc (.cells #[.slice A l.length k] 27)) := Ext.alloc (Ext.refl W) _
  have hlc : (W.alloc (.cells #[.slice A l.length k] 27)).cell? ⟨W.heap.size, 0, none⟩ = some (.slice A l.length k) := by simp [go_sem]
  obtain ⟨Wa, hWa⟩ : ∃ Wa, W.alloc (.cells #[.slice A l.length k] 27) = Wa := ⟨_, rfl⟩
  rw [hWa] at hxa hlc ⊢
  have FX : Hid (∀ w', Ext Wa w' → w'.cell? ⟨B, 0, none⟩ = some (.int .i64 c.ev) ∧ w'.cell? ⟨B, 1, none⟩ = some (.slice A1 c.bs.length c1) ∧ w'.cell? ⟨B, 2, none⟩ = some (.int .i64 c.wi) ∧ w'.cell? ⟨B, 3, none⟩ = some (.slice A2 c.cl.length c2) ∧
      w'.cell? ⟨Ba, 0, none⟩ = some (.int .i64 (a : Int)) ∧ w'.cell? ⟨Bb, 0, none⟩ = some (.int .i64 (b : Int)) ∧ w'.cell? ⟨W.heap.size, 0, none⟩ = some (.slice A l.length k) ∧ Ext W w') := fun w' h =>
    have hx := hxa.trans h
    ⟨hx.cell e0, hx.cell e1, hx.cell e2, hx.cell e3, hx.cell hea, hx.cell heb, h.cell hlc, hx⟩
  refine wp_region_opens Ext (fun w' => Ext Wa w') (fun | 3 => some (fun v w => DeskR w v c (gapsM (fun n => memI n l) c)) | 6 => some (fun v _ => v = .int .i64 (verdictM (gapsM (fun n => memI n l) c) a b)) | _ => none) (by kernel_rfl) (by kernel_rfl) (ext_up Wa) ?hT (Ext.drew (Ext.refl Wa)) ?_
  case hT =>
    intro i R hR
    match i, hR with
    | 3, hR => cases hR; exact fun _ _ _ h k => h.ext k
    | 6, hR => cases hR; exact fun _ _ _ h _ => h
  refine wpM_val ?u0 rfl rfl Ext.refl (fun w' hD => ?h0) ?n0
  case h0 =>
    obtain ⟨d0, d1, d2, d3, da, db, dl, dh⟩ := FX.out w' hD.1
    go_simp; rfl
  simp only [Act.put, List.setIfInBounds_toArray, List.set_cons_succ, List.set_cons_zero, Nat.reduceAdd]
  refine wpM_val ?u1 rfl rfl Ext.refl (fun w' hD => ?h1) ?n1
  case h1 =>
    obtain ⟨d0, d1, d2, d3, da, db, dl, dh⟩ := FX.out w' hD.1
    go_simp; rfl
  simp only [Act.put, List.setIfInBounds_toArray, List.set_cons_succ, List.set_cons_zero, Nat.reduceAdd]
  refine wpM_val ?u2 rfl rfl Ext.refl (fun w' hD => ?h2) ?n2
  case h2 =>
    obtain ⟨d0, d1, d2, d3, da, db, dl, dh⟩ := FX.out w' hD.1
    go_simp; rfl
  simp only [Act.put, List.setIfInBounds_toArray, List.set_cons_succ, List.set_cons_zero, Nat.reduceAdd]
  refine wpM_op _ rfl rfl (opens_call ?f3 ?g3 (fun w' hD => ?h3) (fun w' hD => ?c3)) (fun v3 hv3 => ?n3)
  case h3 => go_simp; constructor <;> rfl
  case c3 =>
    obtain ⟨d0, d1, d2, d3, da, db, dl, dh⟩ := FX.out w' hD.1
    refine (worked_any _ _ _ c (fun n => memI n l) w' rfl ⟨A1, c1, A2, c2, rfl, hBo.kc dh.kc, hCl.kc dh.kc⟩ (needed11_fn w' W.heap.size A k l dl (hI.ext dh) hl63) (checkC_bd H0.out) (checkC_52 H0.out) hs).mono ?_
    rintro e w2 ⟨r, rfl, hd, hb⟩
    exact ⟨_, rfl, hb, hd⟩
  simp only [Act.put, List.setIfInBounds_toArray, List.set_cons_succ, List.set_cons_zero, Nat.reduceAdd]
  refine wpM_val ?u4 rfl rfl Ext.refl (fun w' hD => ?h4) ?n4
  case h4 =>
    obtain ⟨d0, d1, d2, d3, da, db, dl, dh⟩ := FX.out w' hD.1
    go_simp; rfl
  simp only [Act.put, List.setIfInBounds_toArray, List.set_cons_succ, List.set_cons_zero, Nat.reduceAdd]
  refine wpM_val ?u5 rfl rfl Ext.refl (fun w' hD => ?h5) ?n5
  case h5 =>
    obtain ⟨d0, d1, d2, d3, da, db, dl, dh⟩ := FX.out w' hD.1
    go_simp; rfl
  simp only [Act.put, List.setIfInBounds_toArray, List.set_cons_succ, List.set_cons_zero, Nat.reduceAdd]
  refine wpM_op _ rfl rfl (opens_call ?f6 ?g6 (fun w' hD => ?h6) (fun w' hD => ?c6)) (fun v6 hv6 => ?n6)
  case h6 => go_simp; constructor <;> rfl
  case c6 =>
    refine (verdict_any v3 c _ w' (hD.get 3 (by first | kernel_rfl | simp [Region.binds])).2 a b ha hb).mono ?_
    rintro e w2 ⟨rfl, rfl⟩
    exact ⟨_, rfl, Ext.refl _, rfl⟩
  obtain ⟨_, _, _, rfl⟩ := hv6
  simp only [Act.put, List.setIfInBounds_toArray, List.set_cons_succ, List.set_cons_zero, Nat.reduceAdd]
  refine wpM_val ?u7 rfl rfl Ext.refl (fun w' hD => ?h7) ?n7
  case h7 =>
    obtain ⟨d0, d1, d2, d3, da, db, dl, dh⟩ := FX.out w' hD.1
    go_simp; rfl
  simp only [Act.put, List.setIfInBounds_toArray, List.set_cons_succ, List.set_cons_zero, Nat.reduceAdd]
  refine wpM_val ?u8 rfl rfl Ext.refl (fun w' hD => ?h8) ?n8
  case h8 =>
    obtain ⟨d0, d1, d2, d3, da, db, dl, dh⟩ := FX.out w' hD.1
    go_simp; rfl
  simp only [Act.put, List.setIfInBounds_toArray, List.set_cons_succ, List.set_cons_zero, Nat.reduceAdd]
  refine wpM_nil ?_
  intro w9 hw9 hF9
  go_wp2
  go_ret
  exact ⟨ret_of (bool_of (by rw [HP.out])), hxa.trans hw9⟩

set_option maxRecDepth 100000 in
set_option maxHeartbeats 2000000 in
theorem needed_any (v : Value) (c : Cs) (a b : Int) (w : World) (hc : CsR w v c) (hs : c.sized) :
    Calls Try.prog 59 #[v, .int .i64 a, .int .i64 b] w fun e w' => ∃ r, e = .returned (.tuple #[r, .int .i64 (neededC c a b)]) ∧ Ext w w' ∧ (neededC c a b ≠ 0 → r = .slice none 0 0) ∧
      (neededC c a b = 0 → ∃ l A' c', fewL (neededP c a.toNat b.toNat) c.wi.toNat = some l ∧ r = .slice A' l.length c' ∧ Ints w' A' l) := by
  have hc' := hc
  obtain ⟨A1, c1, A2, c2, rfl, hB, hC⟩ := hc
  generalize hT : neededC c a b = T
  have HT : Hid ((if askedC c [a, b] ≠ 0 then askedC c [a, b] else match fewL (neededP c a.toNat b.toNat) c.wi.toNat with | some _ => 0 | none => 6) = T) := hT
  clear hT
  obtain ⟨wi, hwn⟩ : ∃ wi, c.wi.toNat = wi := ⟨_, rfl⟩
  obtain ⟨an, han⟩ : ∃ an, a.toNat = an := ⟨_, rfl⟩
  obtain ⟨bn, hbn⟩ : ∃ bn, b.toNat = bn := ⟨_, rfl⟩
  rw [hwn, han, hbn] at HT ⊢
  go_enter Try.func59, Try.ntmps59
  go_wp2_with fail
  have hx0 : Ext w ((((w.alloc (.cells #[.int .i64 c.ev, .slice A1 c.bs.length c1, .int .i64 c.wi, .slice A2 c.cl.length c2] 26)).alloc (.cells #[.int .i64 a] 3)).alloc (.cells #[.int .i64 b] 3)).alloc (.cells #[.int .i64 a, .int .i64 b] 3)) := Ext.alloc (Ext.alloc (Ext.alloc (Ext.alloc (Ext.refl w) _) _) _) _
  refine (asked_any _ c _ 2 [a, b] _ (hc'.ext hx0) hs (ints_two _ _ a b (by simp [go_sem]) (by simp [go_sem])) (by simp)).mono ?_
  rintro e w1 ⟨r, rfl, hb1, hr1, hr2⟩
  have hx1 := hx0.trans hb1
  have kc0 := hb1.cell (p := ⟨w.heap.size, 0, none⟩) (u := .int .i64 c.ev) (by simp [go_sem])
  have kc1 := hb1.cell (p := ⟨w.heap.size, 1, none⟩) (u := .slice A1 c.bs.length c1) (by simp [go_sem])
  have kc2 := hb1.cell (p := ⟨w.heap.size, 2, none⟩) (u := .int .i64 c.wi) (by simp [go_sem])
  have kc3 := hb1.cell (p := ⟨w.heap.size, 3, none⟩) (u := .slice A2 c.cl.length c2) (by simp [go_sem])
  have kca := hb1.cell (p := ⟨w.heap.size + 1, 0, none⟩) (u := .int .i64 a) (by simp [go_sem])
  have kcb := hb1.cell (p := ⟨w.heap.size + 1 + 1, 0, none⟩) (u := .int .i64 b) (by simp [go_sem])
  by_cases h0 : askedC c [a, b] = 0
  · obtain ⟨hc0, _, hlt⟩ := askedC_parts h0
    have H0 := hid hc0
    have HT2 : Hid ((match fewL (neededP c an bn) wi with | some _ => (0 : Int) | none => 6) = T) := by unfold Hid; rw [← HT.out, if_neg (by simp [h0])]
    obtain ⟨ev1, ev8⟩ := checkC_ev hc0
    have ha := hlt a (by simp)
    have hb := hlt b (by simp)
    rw [h0]
    clear h0 HT hr1 hr2 hlt hc0
    obtain ⟨wi0, wi6⟩ := checkC_wi H0.out
    have hwi6 : wi ≤ 6 := by omega
    have HWI : Hid (c.wi = wi) := by unfold Hid; omega
    have ean : a = an := by omega
    have ebn : b = bn := by omega
    have han8 : an < 8 := by omega
    have hbn8 : bn < 8 := by omega
    have hfn := needed1_fn w1 w.heap.size (w.heap.size + 1) (w.heap.size + 1 + 1) c an bn han8 hbn8 ⟨A1, c1, A2, c2, kc0, kc1, kc2, kc3, hB.ext hx1, hC.ext hx1⟩ (by rw [← ean]; exact kca) (by rw [← ebn]; exact kcb) H0.out hs
    clear hwn ean ebn han hbn
    go_wp2_with fail
    refine (fewest_any _ c _ (neededP c an bn) wi w1 hwi6 HWI.out (hc'.ext hx1) hfn).mono ?_
    rintro e w2 ⟨ov, rfl, hb2, hr2⟩
    cases hq : fewL (neededP c an bn) wi with
    | some r =>
      have HQ : Hid (T = 0) := by unfold Hid; rw [← HT2.out, hq]
      have HS := hid hq
      obtain ⟨A5, c5, rfl, hI5⟩ := hr2 r hq
      clear hr2
      go_wp2
      go_ret2
      exact ⟨.slice A5 r.length c5, by rw [HQ.out]; rfl, hx1.trans hb2, fun h => absurd HQ.out h, fun _ => ⟨r, A5, c5, HS.out, rfl, hI5⟩⟩
    | none =>
      have HQ : Hid (T = 6) := by unfold Hid; rw [← HT2.out, hq]
      clear hr2
      go_wp2
      go_ret2
      exact ⟨.slice none 0 0, by rw [HQ.out]; rfl, hx1.trans hb2, fun _ => rfl, fun h => (by rw [HQ.out] at h; cases h)⟩
  · have HT2 : Hid (T = askedC c [a, b]) := by unfold Hid; rw [← HT.out, if_pos h0]
    have H0 := hid h0
    generalize hE : askedC c [a, b] = E at *
    clear hE hr1 hr2
    go_wp2
    go_ret2
    exact ⟨.slice none 0 0, by rw [HT2.out]; rfl, hx1, fun _ => rfl, fun h => absurd (HT2.out.symm.trans h) H0.out⟩
end Go.Proofs.Ytgnjhaomlbkgcaa
