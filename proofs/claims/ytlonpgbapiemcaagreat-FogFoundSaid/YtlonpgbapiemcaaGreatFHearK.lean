/- The law's hears (whether a walk hears a blast) and fits (whether a walk hears what its cart says). Printed by my gen_fheark.py. -/
import Derived.Test.YtlonpgbapiemcaaGreatFRing
import Derived.Test.YtlonpgbapiemcaaGreatFMadeP
import Derived.Test.YtlonpgbapiemcaaGreatG3
namespace Go.Proofs.YtlonpgbapiemcaaGreat
open Go Go.RowKit Go.Shelf
set_option linter.unusedVariables false
set_option linter.unusedSimpArgs false

set_option maxRecDepth 100000 in
set_option maxHeartbeats 4000000 in
theorem lhears_any (v : Value) (f : Fg) (A : Option Addr) (cA : Nat) (l : List Int) (i : Nat) (b : Bl) (w : World) (hf : FgR w v f) (hok : FogOK f) (hA : Ints w A l) (hi : f.bl[i]? = some b) (hm : b.mi.toNat < l.length)
    (hl : l.length ≤ 1000) (hx : 0 ≤ l.getD b.mi.toNat 0 ∧ l.getD b.mi.toNat 0 < f.pl) :
    Calls Tryz.prog 59 #[v, .slice A l.length cA, .int .i64 (i : Int)] w fun e w' => e = .returned (.bool (hearsL2 (farM f) f l (i : Int))) ∧ Ext w w' := by
  obtain ⟨s, rfl, hr⟩ := hf.rows
  have hp := hok.pl
  have hbn := hok.bn
  have hib := (List.getElem?_eq_some_iff.1 hi).1
  have hb := hok.bl b (mem_of_get hi)
  have HOK := hid hok
  obtain ⟨P, hP⟩ : ∃ P : Nat, f.pl = P := ⟨f.pl.toNat, by omega⟩
  have HP : Hid (f.pl = P ∧ f.pl.toNat = P) := ⟨hP, by omega⟩
  obtain ⟨m, hmm⟩ : ∃ m : Nat, b.mi = m := ⟨b.mi.toNat, by omega⟩
  obtain ⟨a, ha⟩ : ∃ a : Nat, b.pl = a := ⟨b.pl.toNat, by omega⟩
  obtain ⟨lo, hlo⟩ : ∃ lo : Nat, b.lo = lo := ⟨b.lo.toNat, by omega⟩
  rw [hmm, Int.toNat_natCast] at hm hx
  obtain ⟨xv, hxv⟩ := get_of_lt l m hm
  rw [List.getD_eq_getElem?_getD, hxv] at hx
  simp only [Option.getD_some] at hx
  obtain ⟨x, rfl⟩ : ∃ x : Nat, xv = x := ⟨xv.toNat, by omega⟩
  have HXP : Hid (x < f.pl.toNat) := by unfold Hid; omega
  have HA : Hid (a < f.pl.toNat) := by unfold Hid; omega
  have HLO : Hid (lo ≤ 8) := by unfold Hid; omega
  obtain ⟨RES, hRES⟩ : ∃ RES, ringN f a lo x = RES := ⟨_, rfl⟩
  have HRES := hid hRES
  have HQ : Hid (hearsL2 (farM f) f l (i : Int) = RES) := by
    have e1 : blAt f (i : Int) = b := blAt_get (by rw [Int.toNat_natCast]; exact hi)
    unfold Hid hearsL2 wlAt
    rw [e1, hmm, Int.toNat_natCast, List.getD_eq_getElem?_getD, hxv]
    simp only [Option.getD_some, Int.toNat_natCast]
    rw [← ringN_heard hok (mem_of_get hi) (by omega), ha, hlo, Int.toNat_natCast, Int.toNat_natCast, hRES]
  obtain ⟨W0, hW0⟩ : ∃ W0, w.alloc (.cells #[.int .i64 f.pl, .int .i64 f.mi, .slice s.a1 f.tr.length s.c1, .slice s.a2 f.bl.length s.c2, .slice s.a3 f.ct.length s.c3] 29) = W0 := ⟨_, rfl⟩
  have hx0 : Ext w W0 := by rw [← hW0]; exact Ext.alloc (Ext.refl w) _
  have q3' : W0.cell? ⟨w.heap.size, 3, none⟩ = some (.slice s.a2 f.bl.length s.c2) := by rw [← hW0]; simp [go_sem]
  obtain ⟨b1, o1, e1, k0, k1, k2⟩ := Blasts.at_ (hr.ext hx0).bl hi
  rw [hmm] at k0
  rw [ha] at k1
  rw [hlo] at k2
  rw [e1] at q3'
  have hi' : (i : Int) < (f.bl.length : Int) := by omega
  obtain ⟨b2, o2, e2, kw⟩ := Ints.at_ (hA.ext hx0) hxv
  obtain ⟨W1, hW1⟩ : ∃ W1, W0.alloc (.cells #[.int .i64 (m : Int), .int .i64 (a : Int), .int .i64 (lo : Int)] 39) = W1 := ⟨_, rfl⟩
  have hx1 : Ext W0 W1 := by rw [← hW1]; exact Ext.alloc (Ext.refl _) _
  have FX : Hid (∀ w', Ext W1 w' → w'.cell? ⟨w.heap.size, 0, none⟩ = some (.int .i64 f.pl) ∧ w'.cell? ⟨w.heap.size, 1, none⟩ = some (.int .i64 f.mi) ∧ w'.cell? ⟨w.heap.size, 2, none⟩ = some (.slice s.a1 f.tr.length s.c1) ∧ w'.cell? ⟨w.heap.size, 3, none⟩ = some (.slice s.a2 f.bl.length s.c2) ∧ w'.cell? ⟨w.heap.size, 4, none⟩ = some (.slice s.a3 f.ct.length s.c3) ∧
      w'.cell? ⟨W0.heap.size, 0, none⟩ = some (.int .i64 (m : Int)) ∧ w'.cell? ⟨W0.heap.size, 1, none⟩ = some (.int .i64 (a : Int)) ∧ w'.cell? ⟨W0.heap.size, 2, none⟩ = some (.int .i64 (lo : Int)) ∧ w'.cell? ⟨b2, o2 + m, none⟩ = some (.int .i64 (x : Int))) := fun w' h =>
    ⟨(hx1.trans h).cell (by rw [← hW0]; simp [go_sem]), (hx1.trans h).cell (by rw [← hW0]; simp [go_sem]), (hx1.trans h).cell (by rw [← hW0]; simp [go_sem]), (hx1.trans h).cell (by rw [← hW0]; simp [go_sem]), (hx1.trans h).cell (by rw [← hW0]; simp [go_sem]),
     h.cell (by rw [← hW1]; simp [go_sem]), h.cell (by rw [← hW1]; simp [go_sem]), h.cell (by rw [← hW1]; simp [go_sem]), (hx1.trans h).cell kw⟩
  have HF : Hid (∀ w', Ext W1 w' → FgR w' (.agg #[.int .i64 f.pl, .int .i64 f.mi, .slice s.a1 f.tr.length s.c1, .slice s.a2 f.bl.length s.c2, .slice s.a3 f.ct.length s.c3]) f) := fun w' h => hf.ext ((hx0.trans hx1).trans h)
  have hm' : (m : Int) < (l.length : Int) := by omega
  have hxp' : (x : Int) < ((f.pl.toNat : Nat) : Int) := by have := HXP.out; omega
  unfold Ads.val fval
  rw [e2]
  clear hr hf hA hi hxv hb hRES hP e1 e2 hx hmm ha hlo
  go_enter Tryz.func59, Tryz.ntmps59
  go_wp2
  try rw [hW0]
  try rw [hW1]
  clear hW0 hW1 k0 k1 k2 kw q3'
  refine wp_region_shut Ext (fun w' => Ext W1 w') (fun
    | 5 => some (fun v w' => ∃ B, v = .slice (some ⟨B, 0, none⟩) f.pl.toNat f.pl.toNat ∧ Brow w' B (rl f.pl.toNat (ringN f a lo)))
    | 11 => some (fun v w' => ∃ B, v = .pointer (some ⟨B, x, none⟩) ∧ w'.cell? ⟨B, x, none⟩ = some (.bool (ringN f a lo x)))
    | _ => none) (by kernel_rfl) (by kernel_rfl) (fun _ _ h k => h.trans k) ?hT (Ext.drew (Ext.refl W1)) ?_
  case hT =>
    intro i R hR
    match i, hR with
    | 5, hR => cases hR; exact fun _ _ _ ⟨B, e, h⟩ k => ⟨B, e, h.ext k⟩
    | 11, hR => cases hR; exact fun _ _ _ ⟨B, e, h⟩ k => ⟨B, e, k.cell h⟩
  refine wM_val ?us0 rfl rfl Ext.refl (fun w' hD => ?hs0) (fun phs0 => ?ns0)
  case hs0 =>
    obtain ⟨q0, q1, q2, q3, q4, p0, p1, p2, pw⟩ := FX.out w' hD.1
    go_simp; rfl
  simp only [Act.put, List.setIfInBounds_toArray, List.set_cons_succ, List.set_cons_zero, Nat.reduceAdd]
  refine wM_val ?us1 rfl rfl Ext.refl (fun w' hD => ?hs1) (fun phs1 => ?ns1)
  case hs1 =>
    obtain ⟨q0, q1, q2, q3, q4, p0, p1, p2, pw⟩ := FX.out w' hD.1
    go_simp; rfl
  simp only [Act.put, List.setIfInBounds_toArray, List.set_cons_succ, List.set_cons_zero, Nat.reduceAdd]
  refine wM_val ?us2 rfl rfl Ext.refl (fun w' hD => ?hs2) (fun phs2 => ?ns2)
  case hs2 =>
    obtain ⟨q0, q1, q2, q3, q4, p0, p1, p2, pw⟩ := FX.out w' hD.1
    go_simp; rfl
  simp only [Act.put, List.setIfInBounds_toArray, List.set_cons_succ, List.set_cons_zero, Nat.reduceAdd]
  refine wM_val ?us3 rfl rfl Ext.refl (fun w' hD => ?hs3) (fun phs3 => ?ns3)
  case hs3 =>
    obtain ⟨q0, q1, q2, q3, q4, p0, p1, p2, pw⟩ := FX.out w' hD.1
    go_simp; rfl
  simp only [Act.put, List.setIfInBounds_toArray, List.set_cons_succ, List.set_cons_zero, Nat.reduceAdd]
  refine wM_val ?us4 rfl rfl Ext.refl (fun w' hD => ?hs4) (fun phs4 => ?ns4)
  case hs4 =>
    obtain ⟨q0, q1, q2, q3, q4, p0, p1, p2, pw⟩ := FX.out w' hD.1
    go_simp; rfl
  simp only [Act.put, List.setIfInBounds_toArray, List.set_cons_succ, List.set_cons_zero, Nat.reduceAdd]
  refine wM_op _ rfl rfl (opens_call ?fs5 ?gs5 (fun w' hD => ?hs5) (fun w' hD => ?cs5)) (fun v5 hv5 => ?ns5)
  case hs5 => go_simp; constructor <;> rfl
  case cs5 =>
    refine (ring_any _ f a lo w' (HF.out w' hD.1) HOK.out HA.out HLO.out).mono ?_
    rintro e w2 ⟨B, rfl, hb, hB⟩
    exact ⟨_, rfl, hb, B, rfl, hB⟩
  obtain ⟨_, -, -, B, rfl, -⟩ := hv5
  simp only [Act.put, List.setIfInBounds_toArray, List.set_cons_succ, List.set_cons_zero, Nat.reduceAdd]
  refine wM_val ?us6 rfl rfl Ext.refl (fun w' hD => ?hs6) (fun phs6 => ?ns6)
  case hs6 =>
    obtain ⟨q0, q1, q2, q3, q4, p0, p1, p2, pw⟩ := FX.out w' hD.1
    go_simp; rfl
  simp only [Act.put, List.setIfInBounds_toArray, List.set_cons_succ, List.set_cons_zero, Nat.reduceAdd]
  refine wM_val ?us7 rfl rfl Ext.refl (fun w' hD => ?hs7) (fun phs7 => ?ns7)
  case hs7 =>
    obtain ⟨q0, q1, q2, q3, q4, p0, p1, p2, pw⟩ := FX.out w' hD.1
    go_simp; rfl
  simp only [Act.put, List.setIfInBounds_toArray, List.set_cons_succ, List.set_cons_zero, Nat.reduceAdd]
  refine wM_val ?us8 rfl rfl Ext.refl (fun w' hD => ?hs8) (fun phs8 => ?ns8)
  case hs8 =>
    obtain ⟨q0, q1, q2, q3, q4, p0, p1, p2, pw⟩ := FX.out w' hD.1
    go_simp; rfl
  simp only [Act.put, List.setIfInBounds_toArray, List.set_cons_succ, List.set_cons_zero, Nat.reduceAdd]
  refine wM_val ?us9 rfl rfl Ext.refl (fun w' hD => ?hs9) (fun phs9 => ?ns9)
  case hs9 =>
    obtain ⟨q0, q1, q2, q3, q4, p0, p1, p2, pw⟩ := FX.out w' hD.1
    go_simp; rfl
  simp only [Act.put, List.setIfInBounds_toArray, List.set_cons_succ, List.set_cons_zero, Nat.reduceAdd]
  refine wM_val ?us10 rfl rfl Ext.refl (fun w' hD => ?hs10) (fun phs10 => ?ns10)
  case hs10 =>
    obtain ⟨q0, q1, q2, q3, q4, p0, p1, p2, pw⟩ := FX.out w' hD.1
    go_simp; rfl
  simp only [Act.put, List.setIfInBounds_toArray, List.set_cons_succ, List.set_cons_zero, Nat.reduceAdd]
  refine wM_op _ rfl rfl (opens_val (fun w' hD => ?hs11)) (fun vs11 hvs11 => ?ns11)
  case hs11 =>
    obtain ⟨-, B', eB, hBr⟩ := hD.get 5 (by kernel_rfl)
    cases eB
    refine ⟨.pointer (some ⟨B, x, none⟩), w', ?_, Ext.refl _, B, rfl, hBr.at_ (rl_get _ HXP.out)⟩
    have hxp2 : ¬ (max f.pl 0 ≤ (x : Int)) := by omega
    go_simp
    all_goals (try omega)
  obtain ⟨_, -, -, B', e11, -⟩ := hvs11
  subst e11
  simp only [Act.put, List.setIfInBounds_toArray, List.set_cons_succ, List.set_cons_zero, Nat.reduceAdd]
  refine wM_val (.bool RES) rfl rfl Ext.refl (fun w' hD => ?hs12) (fun phs12 => ?ns12)
  case hs12 =>
    obtain ⟨-, B'', eB, hc⟩ := hD.get 11 (by kernel_rfl)
    cases eB
    rw [HRES.out] at hc
    go_simp; try rfl
  simp only [Act.put, List.setIfInBounds_toArray, List.set_cons_succ, List.set_cons_zero, Nat.reduceAdd]
  refine wM_val ?us13 rfl rfl Ext.refl (fun w' hD => ?hs13) (fun phs13 => ?ns13)
  case hs13 =>
    obtain ⟨q0, q1, q2, q3, q4, p0, p1, p2, pw⟩ := FX.out w' hD.1
    go_simp; rfl
  simp only [Act.put, List.setIfInBounds_toArray, List.set_cons_succ, List.set_cons_zero, Nat.reduceAdd]
  refine wM_nil ?_
  intro w9 hw9 hF9
  clear hF9
  go_wp2
  go_ret
  exact ⟨by rw [HQ.out]; rfl, (hx0.trans hx1).trans hw9⟩

/-- What a walk must be that is asked for. -/
structure WlOK (f : Fg) (l : List Int) : Prop where
  len : l.length = f.mi.toNat + 1
  pl : ∀ x ∈ l, 0 ≤ x ∧ x < f.pl
theorem RealW.wl {f : Fg} {c : Ct} {l : List Int} (h : RealW f c l) : WlOK f l := ⟨h.len, h.pl⟩
theorem WlOK.at_ {f : Fg} {l : List Int} (h : WlOK f l) {b : Bl} (hb : 0 ≤ b.mi ∧ b.mi ≤ f.mi) : b.mi.toNat < l.length ∧ 0 ≤ l.getD b.mi.toNat 0 ∧ l.getD b.mi.toNat 0 < f.pl := by
  have h1 := h.len
  have h2 : b.mi.toNat < l.length := by omega
  refine ⟨h2, ?_⟩
  rw [List.getD_eq_getElem?_getD, List.getElem?_eq_getElem h2]
  exact h.pl _ (List.getElem_mem _)
theorem heardAll_any (g : Mat) (f : Fg) (c : Ct) (l : List Int) : (!c.rp.any fun r => hearsL2 g f l r.bl != r.hd) = heardAll g f c l := by
  unfold heardAll
  induction c.rp with
  | nil => rfl
  | cons r rs ih =>
    rw [List.any_cons, List.all_cons, Bool.not_or, ih]
    congr 1
    cases hearsL2 g f l r.bl <;> cases r.hd <;> rfl
set_option maxRecDepth 100000 in
set_option maxHeartbeats 4000000 in
theorem lfits1_fn (s : Ads) (f : Fg) (A : Option Addr) (cA : Nat) (l : List Int) (Bf Bw : Nat) (w : World) (hf : FgR w (.agg #[.int .i64 f.pl, .int .i64 f.mi, .slice s.a1 f.tr.length s.c1, .slice s.a2 f.bl.length s.c2, .slice s.a3 f.ct.length s.c3]) f) (hok : FogOK f) (hA : Ints w A l) (hl : WlOK f l)
    (hc : w.cell? ⟨Bf, 0, none⟩ = some (.int .i64 f.pl) ∧ w.cell? ⟨Bf, 1, none⟩ = some (.int .i64 f.mi) ∧ w.cell? ⟨Bf, 2, none⟩ = some (.slice s.a1 f.tr.length s.c1) ∧ w.cell? ⟨Bf, 3, none⟩ = some (.slice s.a2 f.bl.length s.c2) ∧ w.cell? ⟨Bf, 4, none⟩ = some (.slice s.a3 f.ct.length s.c3)) (hw : w.cell? ⟨Bw, 0, none⟩ = some (.slice A l.length cA)) :
    FnP Tryz.prog (.func (.func 94) #[] #[.pointer (some ⟨Bf, 0, none⟩), .pointer (some ⟨Bw, 0, none⟩)]) w RpR (fun r => 0 ≤ r.bl ∧ r.bl < f.bl.length) (fun r => hearsL2 (farM f) f l r.bl != r.hd) := by
  refine ⟨_, _, _, rfl, enters_of Tryz.func94 (by kernel_rfl) rfl, fun x v W hs hW hR => ?_⟩
  obtain rfl : v = x.val := hR
  obtain ⟨xb, xh⟩ := x
  dsimp only at hs
  obtain ⟨i, rfl⟩ : ∃ i : Nat, xb = i := ⟨xb.toNat, by omega⟩
  obtain ⟨b, hb⟩ := get_of_lt f.bl i (by omega)
  have hbb := hok.bl b (mem_of_get hb)
  obtain ⟨z1, z2⟩ := hl.at_ hbb.1
  have hm8 := hok.mi
  have hll := hl.len
  unfold Rp.val
  show Calls _ _ #[_, _, _] _ _
  obtain ⟨W0, hW0⟩ : ∃ W0, W.alloc (.cells #[.int .i64 (i : Int), .bool xh] 82) = W0 := ⟨_, rfl⟩
  have hx0 : Ext W W0 := by rw [← hW0]; exact Ext.alloc (Ext.refl W) _
  have hWk : ∀ w', Ext W0 w' → Kc w w' := fun w' h => hW.trans (hx0.trans h).kc
  obtain ⟨c0, c1, c2, c3, c4⟩ := hc
  have FX : Hid (∀ w', Ext W0 w' → w'.cell? ⟨Bf, 0, none⟩ = some (.int .i64 f.pl) ∧ w'.cell? ⟨Bf, 1, none⟩ = some (.int .i64 f.mi) ∧ w'.cell? ⟨Bf, 2, none⟩ = some (.slice s.a1 f.tr.length s.c1) ∧ w'.cell? ⟨Bf, 3, none⟩ = some (.slice s.a2 f.bl.length s.c2) ∧ w'.cell? ⟨Bf, 4, none⟩ = some (.slice s.a3 f.ct.length s.c3) ∧
      w'.cell? ⟨Bw, 0, none⟩ = some (.slice A l.length cA) ∧ w'.cell? ⟨W.heap.size, 0, none⟩ = some (.int .i64 (i : Int)) ∧ w'.cell? ⟨W.heap.size, 1, none⟩ = some (.bool xh)) := fun w' h =>
    ⟨(hWk w' h).cell c0, (hWk w' h).cell c1, (hWk w' h).cell c2, (hWk w' h).cell c3, (hWk w' h).cell c4, (hWk w' h).cell hw, h.cell (by rw [← hW0]; simp [go_sem]), h.cell (by rw [← hW0]; simp [go_sem])⟩
  obtain ⟨HB, hHB⟩ : ∃ HB, hearsL2 (farM f) f l (i : Int) = HB := ⟨_, rfl⟩
  have KH : Hid (∀ w', Ext W0 w' → Calls Tryz.prog 59 #[.agg #[.int .i64 f.pl, .int .i64 f.mi, .slice s.a1 f.tr.length s.c1, .slice s.a2 f.bl.length s.c2, .slice s.a3 f.ct.length s.c3], .slice A l.length cA, .int .i64 (i : Int)] w' fun e w2 => e = .returned (.bool HB) ∧ Ext w' w2) := fun w' h => by
    have K := lhears_any _ f A cA l i b w' (hf.kc (hWk w' h)) hok (hA.kc (hWk w' h)) hb z1 (by omega) z2
    rw [hHB] at K
    exact K
  dsimp only
  rw [hHB]
  clear hf hok hA hl c0 c1 c2 c3 c4 hw hs hb hbb z1 z2 hWk hW hHB hll
  go_enter Tryz.func94, Tryz.ntmps94
  go_wp2
  try rw [hW0]
  clear hW0
  refine wp_region_shut Ext (fun w' => Ext W0 w') (fun
    | 4 => some (fun v w' => v = .bool HB)
    | _ => none) (by kernel_rfl) (by kernel_rfl) (fun _ _ h k => h.trans k) ?hT (Ext.drew (Ext.refl W0)) ?_
  case hT =>
    intro i R hR
    match i, hR with
    | 4, hR => cases hR; exact fun _ _ _ h _ => h
  refine wM_val ?ut0 rfl rfl Ext.refl (fun w' hD => ?ht0) (fun pht0 => ?nt0)
  case ht0 =>
    obtain ⟨d0, d1, d2, d3, d4, dw, r0, r1⟩ := FX.out w' hD.1
    go_simp; rfl
  simp only [Act.put, List.setIfInBounds_toArray, List.set_cons_succ, List.set_cons_zero, Nat.reduceAdd]
  refine wM_val ?ut1 rfl rfl Ext.refl (fun w' hD => ?ht1) (fun pht1 => ?nt1)
  case ht1 =>
    obtain ⟨d0, d1, d2, d3, d4, dw, r0, r1⟩ := FX.out w' hD.1
    go_simp; rfl
  simp only [Act.put, List.setIfInBounds_toArray, List.set_cons_succ, List.set_cons_zero, Nat.reduceAdd]
  refine wM_val ?ut2 rfl rfl Ext.refl (fun w' hD => ?ht2) (fun pht2 => ?nt2)
  case ht2 =>
    obtain ⟨d0, d1, d2, d3, d4, dw, r0, r1⟩ := FX.out w' hD.1
    go_simp; rfl
  simp only [Act.put, List.setIfInBounds_toArray, List.set_cons_succ, List.set_cons_zero, Nat.reduceAdd]
  refine wM_val ?ut3 rfl rfl Ext.refl (fun w' hD => ?ht3) (fun pht3 => ?nt3)
  case ht3 =>
    obtain ⟨d0, d1, d2, d3, d4, dw, r0, r1⟩ := FX.out w' hD.1
    go_simp; rfl
  simp only [Act.put, List.setIfInBounds_toArray, List.set_cons_succ, List.set_cons_zero, Nat.reduceAdd]
  refine wM_op _ rfl rfl (opens_call ?ft4 ?gt4 (fun w' hD => ?ht4) (fun w' hD => ?ct4)) (fun v4 hv4 => ?nt4)
  case ht4 => go_simp; constructor <;> rfl
  case ct4 =>
    refine (KH.out w' hD.1).mono ?_
    rintro e w2 ⟨rfl, hb⟩
    exact ⟨_, rfl, hb, rfl⟩
  obtain ⟨_, -, -, rfl⟩ := hv4
  simp only [Act.put, List.setIfInBounds_toArray, List.set_cons_succ, List.set_cons_zero, Nat.reduceAdd]
  refine wM_val ?ut5 rfl rfl Ext.refl (fun w' hD => ?ht5) (fun pht5 => ?nt5)
  case ht5 =>
    obtain ⟨d0, d1, d2, d3, d4, dw, r0, r1⟩ := FX.out w' hD.1
    go_simp; rfl
  simp only [Act.put, List.setIfInBounds_toArray, List.set_cons_succ, List.set_cons_zero, Nat.reduceAdd]
  refine wM_val ?ut6 rfl rfl Ext.refl (fun w' hD => ?ht6) (fun pht6 => ?nt6)
  case ht6 =>
    obtain ⟨d0, d1, d2, d3, d4, dw, r0, r1⟩ := FX.out w' hD.1
    go_simp; rfl
  simp only [Act.put, List.setIfInBounds_toArray, List.set_cons_succ, List.set_cons_zero, Nat.reduceAdd]
  refine wM_val ?ut7 rfl rfl Ext.refl (fun w' hD => ?ht7) (fun pht7 => ?nt7)
  case ht7 =>
    obtain ⟨d0, d1, d2, d3, d4, dw, r0, r1⟩ := FX.out w' hD.1
    go_simp; rfl
  simp only [Act.put, List.setIfInBounds_toArray, List.set_cons_succ, List.set_cons_zero, Nat.reduceAdd]
  refine wM_val ?ut8 rfl rfl Ext.refl (fun w' hD => ?ht8) (fun pht8 => ?nt8)
  case ht8 =>
    obtain ⟨d0, d1, d2, d3, d4, dw, r0, r1⟩ := FX.out w' hD.1
    go_simp; rfl
  simp only [Act.put, List.setIfInBounds_toArray, List.set_cons_succ, List.set_cons_zero, Nat.reduceAdd]
  refine wM_nil ?_
  intro w9 hw9 hF9
  clear hF9
  go_wp2
  go_ret
  exact ⟨rfl, hx0.trans hw9⟩
set_option maxRecDepth 100000 in
set_option maxHeartbeats 4000000 in
theorem lfits_any (v : Value) (f : Fg) (k : Nat) (c : Ct) (A : Option Addr) (cA : Nat) (l : List Int) (w : World) (hf : FgR w v f) (hok : FogOK f) (hc : f.ct[k]? = some c) (hA : Ints w A l) (hl : WlOK f l) :
    Calls Tryz.prog 25 #[v, .int .i64 (k : Int), .slice A l.length cA] w fun e w' => e = .returned (.bool (heardAll (farM f) f c l)) ∧ Ext w w' := by
  obtain ⟨s, rfl, hr⟩ := hf.rows
  have hk := (List.getElem?_eq_some_iff.1 hc).1
  have hk' : (k : Int) < (f.ct.length : Int) := by omega
  have hcm := mem_of_get hc
  have h8 := hok.rn c hcm
  have HRP := hid (hok.rp c hcm)
  obtain ⟨W0, hW0⟩ : ∃ W0, (w.alloc (.cells #[.int .i64 f.pl, .int .i64 f.mi, .slice s.a1 f.tr.length s.c1, .slice s.a2 f.bl.length s.c2, .slice s.a3 f.ct.length s.c3] 29)).alloc (.cells #[.slice A l.length cA] 37) = W0 := ⟨_, rfl⟩
  have hx0 : Ext w W0 := by rw [← hW0]; exact (Ext.alloc (Ext.refl w) _).alloc _
  have q0 : W0.cell? ⟨w.heap.size, 0, none⟩ = some (.int .i64 f.pl) := by rw [← hW0]; simp [go_sem]
  have q1 : W0.cell? ⟨w.heap.size, 1, none⟩ = some (.int .i64 f.mi) := by rw [← hW0]; simp [go_sem]
  have q2 : W0.cell? ⟨w.heap.size, 2, none⟩ = some (.slice s.a1 f.tr.length s.c1) := by rw [← hW0]; simp [go_sem]
  have q3 : W0.cell? ⟨w.heap.size, 3, none⟩ = some (.slice s.a2 f.bl.length s.c2) := by rw [← hW0]; simp [go_sem]
  have q4 : W0.cell? ⟨w.heap.size, 4, none⟩ = some (.slice s.a3 f.ct.length s.c3) := by rw [← hW0]; simp [go_sem]
  have q5 : W0.cell? ⟨w.heap.size + 1, 0, none⟩ = some (.slice A l.length cA) := by rw [← hW0]; simp [go_sem]
  obtain ⟨b, off, A1, c1, A2, c2, e3, k1, k2, hI, hR, -, -⟩ := (hr.ext hx0).ct.at_ hc
  have K := containsFunc_rep A2 c2 c.rp _ _ _ W0 hR (by omega) HRP.out (lfits1_fn s f A cA l w.heap.size (w.heap.size + 1) W0 (hf.ext hx0) hok (hA.ext hx0) hl ⟨q0, q1, q2, q3, q4⟩ q5)
  have HQ := hid (heardAll_any (farM f) f c l)
  obtain ⟨HB, hHB⟩ : ∃ HB, (c.rp.any fun r => hearsL2 (farM f) f l r.bl != r.hd) = HB := ⟨_, rfl⟩
  rw [hHB] at K HQ
  have HK := hid K
  have q4' := q4
  rw [e3] at q4'
  have k2' := k2
  unfold Ads.val fval
  clear hr hf hA hl hc K hHB q0 q1 q2 q3 q4 q5 k1 k2 hI hR e3 hok
  go_enter Tryz.func25, Tryz.ntmps25
  go_wp2_with fail
  try rw [hW0]
  clear hW0
  refine HK.out.mono ?_
  rintro e w1 ⟨rfl, h1⟩
  go_wp2
  go_ret
  exact ⟨by rw [← HQ.out]; rfl, hx0.trans h1⟩
end Go.Proofs.YtlonpgbapiemcaaGreat
