/- The walk of the reference's Still. Printed by my gen_fref18.py. -/
import Derived.Test.YtpbpcplboikpcaaGreatG9
import Derived.Test.YtpbpcplboikpcaaGreatFStillP
namespace Go.Proofs.YtpbpcplboikpcaaGreat
open Go Go.RowKit Go.Shelf
set_option linter.unusedVariables false
set_option linter.unusedSimpArgs false

section
variable (f : Fg) (c : Ct)
def cndS (m p q : Nat) : Bool := inCan (farM f) f c (m + 1) p && inCan (farM f) f c m q && decide (farM f q p ≤ 1)
def stPart (m p q : Nat) : Int := maxF (List.range q) (cndS f c m p) (fun q => stR (farM f) f c m q + stay1 p q) (-100)
def doneS (m p y : Nat) : Int := if y < p then stR (farM f) f c (m + 1) y else 0
def midS (m p q y : Nat) : Int := if y < p then stR (farM f) f c (m + 1) y else if y = p then stPart f c m p q else 0
end
section
variable {f : Fg} {c : Ct}
theorem stPart_next {m p q : Nat} : stPart f c m p (q + 1) = if cndS f c m p q then max (stPart f c m p q) (stR (farM f) f c m q + stay1 p q) else stPart f c m p q := maxF_range _ _ _ _
theorem stPart_all {m p : Nat} : stPart f c m p f.pl.toNat = stR (farM f) f c (m + 1) p := rfl
theorem rl_set' {n k : Nat} {g h : Nat → Int} {x : Int} (hk : h k = x) (ho : ∀ y, y < n → y ≠ k → h y = g y) : (rl n g).set k x = rl n h := by
  apply List.ext_getElem?
  intro y
  by_cases hy : y < n
  · rw [rl_get _ hy]
    by_cases e : y = k
    · subst e; rw [List.getElem?_set_self (by rw [rl_len]; exact hy), hk]
    · rw [List.getElem?_set_ne (fun e2 => e e2.symm), rl_get _ hy, ho y hy e]
  · rw [List.getElem?_eq_none (by rw [List.length_set, rl_len]; omega), List.getElem?_eq_none (by rw [rl_len]; omega)]
theorem doneS_set {m p P : Nat} : (rl P (doneS f c m p)).set p (-100) = rl P (midS f c m p 0) := by
  refine rl_set' ?_ fun y _ hy => ?_
  · unfold midS; rw [if_neg (by omega), if_pos rfl]; rfl
  · unfold midS doneS; rw [if_neg hy]
theorem midS_set {m p q P : Nat} {X : Int} (hX : X = stPart f c m p (q + 1)) : (rl P (midS f c m p q)).set p X = rl P (midS f c m p (q + 1)) := by
  refine rl_set' ?_ fun y _ hy => ?_
  · unfold midS; rw [if_neg (by omega), if_pos rfl]; exact hX.symm
  · unfold midS; rw [if_neg hy, if_neg hy]
theorem midS_same {m p q : Nat} (h : stPart f c m p (q + 1) = stPart f c m p q) : midS f c m p (q + 1) = midS f c m p q := by
  funext y; unfold midS; rw [h]
theorem midS_done {m p P : Nat} (hP : f.pl.toNat = P) : rl P (midS f c m p P) = rl P (doneS f c m (p + 1)) := by
  refine rl_congr fun y hy => ?_
  unfold midS doneS
  by_cases h1 : y < p
  · rw [if_pos h1, if_pos (by omega)]
  · rw [if_neg h1]
    by_cases h2 : y = p
    · rw [if_pos h2, if_pos (by omega), h2, ← hP]; rfl
    · rw [if_neg h2, if_neg (by omega)]
theorem doneS_all {m P : Nat} : rl P (doneS f c m P) = rl P (stR (farM f) f c (m + 1)) := rl_congr fun y hy => by unfold doneS; rw [if_pos hy]
theorem midS_at {m p q : Nat} : midS f c m p q p = stPart f c m p q := by unfold midS; rw [if_neg (by omega), if_pos rfl]
theorem stPart_le {m p : Nat} (q : Nat) : -100 ≤ stPart f c m p q ∧ stPart f c m p q ≤ m + 1 := by
  unfold stPart
  obtain ⟨h1, -, h3⟩ := maxF_spec (cndS f c m p) (fun q => stR (farM f) f c m q + stay1 p q) (List.range q) (-100)
  refine ⟨h1, ?_⟩
  rcases h3 with h | ⟨x, _, _, he⟩
  · rw [h]; omega
  · rw [he]
    have h1 := stR_le (g := farM f) (f := f) (c := c) m x
    have h2 := stay_nn p x
    omega
end
set_option maxRecDepth 100000 in
set_option maxHeartbeats 8000000 in
theorem refstill_any (v : Value) (f : Fg) (k : Nat) (c : Ct) (w : World) (hf : RgR w v f (distL f)) (hs : f.sized) (hok : FogOK f) (hc : f.ct[k]? = some c) :
    Calls Tryz.prog 52 #[v, .int .i64 (k : Int)] w fun e w' => e = .returned (.int .i64 (stillR (farM f) f c)) ∧ Ext w w' := by
  obtain ⟨Mi, hMi⟩ : ∃ Mi : Nat, f.mi.toNat = Mi := ⟨_, rfl⟩
  obtain ⟨P, hP⟩ : ∃ P : Nat, f.pl.toNat = P := ⟨_, rfl⟩
  have HMI := hid hMi
  have HP := hid hP
  have hmi := hok.mi
  have hpl := hok.pl
  have HMJ : Hid (f.mi = (Mi : Int)) := by unfold Hid; omega
  have HPJ : Hid (f.pl = (P : Int)) := by unfold Hid; omega
  have hMi8 : Mi ≤ 8 := by omega
  have hP8 : P ≤ 8 := by omega
  obtain ⟨SV, hSV⟩ : ∃ SV, stillR (farM f) f c = SV := ⟨_, rfl⟩
  rw [hSV]
  have HSV : Hid (maxF (List.range P) (fun _ => true) (stR (farM f) f c Mi) 0 = SV) := by unfold Hid; rw [← hSV, ← hMi, ← hP]; rfl
  have HFF0 := hid hf
  obtain ⟨s, A4, c4, rfl, hr, hd⟩ := hf
  have HOK := hid hok
  have HC := hid hc
  have HS := hid hs
  have hmk := fun w => run_make_row' (P := Tryz.prog) 42 3 (.int .i64 0) 8 Tryz.underlying42 infoInt rfl .i64 .i64 P (by omega) (by omega) w
  obtain ⟨W0, hW0⟩ : ∃ W0, w.alloc (.cells #[.int .i64 f.pl, .int .i64 f.mi, .slice s.a1 f.tr.length s.c1, .slice s.a2 f.bl.length s.c2, .slice s.a3 f.ct.length s.c3, .slice A4 (distL f).length c4] 37) = W0 := ⟨_, rfl⟩
  have hx0 : Ext w W0 := by rw [← hW0]; exact Ext.alloc (Ext.refl w) _
  have FX : Hid (∀ w', Ext W0 w' → w'.cell? ⟨w.heap.size, 0, none⟩ = some (.int .i64 (P : Int)) ∧ w'.cell? ⟨w.heap.size, 1, none⟩ = some (.int .i64 (Mi : Int)) ∧ w'.cell? ⟨w.heap.size, 2, none⟩ = some (.slice s.a1 f.tr.length s.c1) ∧ w'.cell? ⟨w.heap.size, 3, none⟩ = some (.slice s.a2 f.bl.length s.c2) ∧ w'.cell? ⟨w.heap.size, 4, none⟩ = some (.slice s.a3 f.ct.length s.c3) ∧ w'.cell? ⟨w.heap.size, 5, none⟩ = some (.slice A4 (distL f).length c4)) := fun w' h => ⟨by rw [← HPJ.out]; exact h.cell (by rw [← hW0]; simp [go_sem]), by rw [← HMJ.out]; exact h.cell (by rw [← hW0]; simp [go_sem]), h.cell (by rw [← hW0]; simp [go_sem]), h.cell (by rw [← hW0]; simp [go_sem]), h.cell (by rw [← hW0]; simp [go_sem]), h.cell (by rw [← hW0]; simp [go_sem])⟩
  have HFF : Hid (∀ w', Ext W0 w' → RgR w' (.agg #[.int .i64 (P : Int), .int .i64 (Mi : Int), .slice s.a1 f.tr.length s.c1, .slice s.a2 f.bl.length s.c2, .slice s.a3 f.ct.length s.c3, .slice A4 (distL f).length c4]) f (distL f)) := fun w' h => by
    have := HFF0.out.ext (hx0.trans h)
    unfold rval at this
    rw [HPJ.out, HMJ.out] at this
    exact this
  unfold rval
  have HE0 := hid hW0
  obtain ⟨q0, q1, q2, q3, q4, q5⟩ := FX.out W0 (Ext.refl _)
  clear hr hd hc hok hs hMi hP hSV hW0 HFF0
  go_enter Tryz.func52, Tryz.ntmps52
  go_upto_region 1 with fail
  try rw [HE0.out]
  clear HE0
  go_wp2_with fail
  clear q0 q1 q2 q3 q4 q5
  refine (refcan_any _ f k c W0 (HFF.out W0 (Ext.refl _)) HS.out HOK.out HC.out).mono ?_
  rintro e w1 ⟨Ac, kc, rfl, h1, hIc, -⟩
  rw [HMI.out]
  have HIC := hid hIc
  clear hIc
  obtain ⟨q0, q1, q2, q3, q4, q5⟩ := FX.out w1 h1
  obtain ⟨W2, hW2⟩ : ∃ W2, w1.alloc (.cells (madeCells #[.int .i64 0] P) 3) = W2 := ⟨_, rfl⟩
  have h12 : Ext w1 W2 := by rw [← hW2]; exact Ext.alloc (Ext.refl _) _
  have HB0 : Hid (Nrow W2 w1.heap.size (rl P (stR (farM f) f c 0))) := by
    unfold Hid
    rw [show rl P (stR (farM f) f c 0) = rl P (fun _ => (0 : Int)) from rl_congr fun _ _ => rfl, rl_const, ← hW2, made_nrow]; exact World.alloc_heap_new _ _
  have HE2 := hid hW2
  clear hW2
  go_upto_region 3 with fail
  try rw [HE2.out]
  clear HE2
  clear q0 q1 q2 q3 q4 q5
  go_wp2_with fail
  go_loopw [7, 6] (fun i7 i6 wr => ∃ (m B : Nat), m ≤ Mi ∧ i7 = .int .i64 ((m : Int) + 1) ∧ i6 = .slice (some ⟨B, 0, none⟩) P P ∧ Hid (Nrow wr B (rl P (stR (farM f) f c m))) ∧ Ext w1 wr) (fun i _ _ => Mi + 1 - (intOf i).toNat)
  case atStart => exact ⟨0, w1.heap.size, Nat.zero_le _, rfl, rfl, HB0, h12⟩
  case round =>
    clear HB0 h12
    obtain ⟨m, B, hm, rfl, rfl, HRB, hx⟩ := hrel
    obtain ⟨q0, q1, q2, q3, q4, q5⟩ := FX.out wr (h1.trans hx)
    by_cases hlt : m < Mi
    · have hlt' : (m : Int) + 1 ≤ (Mi : Int) := by omega
      have hm1 : m + 1 ≤ f.mi.toNat := by rw [HMI.out]; omega
      have hm0 : m ≤ f.mi.toNat := by omega
      obtain ⟨N, hN⟩ : ∃ N, wr.heap.size = N := ⟨_, rfl⟩
      obtain ⟨V2, hV2⟩ : ∃ V2, wr.alloc (.cells (madeCells #[.int .i64 0] P) 3) = V2 := ⟨_, rfl⟩
      have hxV : Ext wr V2 := by rw [← hV2]; exact Ext.alloc (Ext.refl _) _
      have HN0 : Hid (Nrow V2 N (rl P (doneS f c m 0))) := by
        unfold Hid
        rw [show doneS f c m 0 = fun _ => (0 : Int) from rfl, rl_const, ← hV2, ← hN, made_nrow]; exact World.alloc_heap_new _ _
      have HBN : Hid (B < N) := by have := HRB.out.lt; unfold Hid; omega
      have HNS : Hid (wr.heap.size ≤ N) := by unfold Hid; omega
      have hne : ¬ B = N := by have := HBN.out; omega
      have HE1 := hid hN
      have HE2 := hid hV2
      clear hN hV2
      go_upto_region 7 with fail
      try rw [HE2.out]
      try rw [HE1.out]
      clear HE1 HE2 q0 q1 q2 q3 q4 q5
      go_wp2_with fail
      obtain ⟨wo, hwo⟩ : ∃ wo, wo = wr := ⟨_, rfl⟩
      subst hwo
      go_loopw [9] (fun i9 wx => ∃ (p : Nat), p ≤ P ∧ i9 = .int .i64 (p : Int) ∧ Hid (Nrow wx N (rl P (doneS f c m p))) ∧ Ext wo wx) (fun i _ => P - (intOf i).toNat)
      case atStart => exact ⟨0, Nat.zero_le _, rfl, HN0, hxV⟩
      case round =>
        clear HN0 hxV
        obtain ⟨p, hp, rfl, HNR, hxp⟩ := hrel
        by_cases hlp : p < P
        · have hlp' : (p : Int) < (P : Int) := by omega
          have hcp := HNR.out.at_ (rl_get (doneS f c m p) hlp)
          have hfz := HNR.out.frozen p
          obtain ⟨w5, hw5⟩ : ∃ w5, wr.setCell ⟨N, p, none⟩ (.int .i64 (-100)) = w5 := ⟨_, rfl⟩
          have HM0 : Hid (Nrow w5 N (rl P (midS f c m p 0))) := by unfold Hid; rw [← doneS_set, ← hw5]; exact HNR.out.set p (-100)
          have hx5 : Ext wo w5 := by rw [← hw5]; exact hxp.setCell (by have := HNS.out; show wo.heap.size ≤ N; omega) _
          have HE5 := hid hw5
          clear hw5 HNR
          go_upto_region 11 with fail
          try rw [HE5.out]
          clear HE5 hcp hfz
          go_wp2_with fail
          go_loopw [10, 11] (fun i10 i11 wy => ∃ (q : Nat), q ≤ P ∧ i10 = .int .i64 (q : Int) ∧ Hid (Nrow wy N (rl P (midS f c m p q))) ∧ Ext wo wy) (fun i _ _ => P - (intOf i).toNat)
          case atStart => exact ⟨0, Nat.zero_le _, rfl, HM0, hx5⟩
          case round =>
            clear HM0 hx5
            obtain ⟨q, hq, rfl, HB, hxq⟩ := hrel
            by_cases hlq : q < P
            · have hlq' : (q : Int) < (P : Int) := by omega
              obtain ⟨r1, o1, A7, k7, e7, g7, hI7, -⟩ := (HIC.out.ext (hx.trans hxq)).at_ (canL_get hm1)
              obtain ⟨r2, o2, A8, k8, e8, g8, hI8, -⟩ := (HIC.out.ext (hx.trans hxq)).at_ (canL_get hm0)
              have e9 : r2 = r1 ∧ o2 = o1 := by rw [e7] at e8; injection e8 with e; injection e with e1 e2; exact ⟨e1.symm, e2.symm⟩
              obtain ⟨rfl, rfl⟩ := e9
              rw [e7]
              obtain ⟨q0, q1, q2, q3, q4, q5⟩ := FX.out wr (h1.trans (hx.trans hxq))
              have HI7 := hid hI7
              have HI8 := hid hI8
              have hl7 := (canN_lt (g := farM f) (c := c) hpl.2 (m + 1)).2
              have hl8 := (canN_lt (g := farM f) (c := c) hpl.2 m).2
              have hma : (m : Int) + 1 < (Mi : Int) + 1 := by omega
              have hmb : (m : Int) < (Mi : Int) + 1 := by omega
              have hmc : m + 1 < Mi + 1 := by omega
              have hwm : IntKind.i64.wrap ((m : Int) + 1 - 1) = (m : Int) := by rw [show (m : Int) + 1 - 1 = m by omega]; exact IntWalk.i64_in _ ⟨by omega, by omega⟩
              have hwm2 : IntKind.i64.wrap (m : Int) = (m : Int) := IntWalk.i64_in _ ⟨by omega, by omega⟩
              clear hI7 hI8 e7 e8
              have K := refhas_any A7 k7 (natI (canN (farM f) f c (m + 1))) (p : Int) wr HI7.out (by omega)
              obtain ⟨X1, hX1⟩ : ∃ x, memI (p : Int) (natI (canN (farM f) f c (m + 1))) = x := ⟨_, rfl⟩
              rw [hX1] at K
              have HX1 : Hid (inCan (farM f) f c (m + 1) p = X1) := hX1
              have HK := hid K
              clear K hX1
              go_wp2_with fail
              refine HK.out.mono ?_
              clear HK
              rintro e wz ⟨rfl, hz⟩
              subst hz
              cases X1
              case false =>
                have HNX2 : Hid (stPart f c m p (q + 1) = stPart f c m p q) := by unfold Hid; rw [stPart_next]; unfold cndS; rw [HX1.out]; rfl
                have HB2 : Hid (Nrow wz N (rl P (midS f c m p (q + 1)))) := by unfold Hid; rw [midS_same HNX2.out]; exact HB.out
                clear HB HNX2
                go_wp2
                go_roundw
                case rel => exact ⟨q + 1, by omega, by go_num, HB2, hxq⟩
                case measure => simp [intOf]; omega
              have K := refhas_any A8 k8 (natI (canN (farM f) f c m)) (q : Int) wz HI8.out (by omega)
              obtain ⟨X2, hX2⟩ : ∃ x, memI (q : Int) (natI (canN (farM f) f c m)) = x := ⟨_, rfl⟩
              rw [hX2] at K
              have HX2 : Hid (inCan (farM f) f c m q = X2) := hX2
              have HK := hid K
              clear K hX2
              go_wp2_with fail
              refine HK.out.mono ?_
              clear HK
              rintro e wy ⟨rfl, hz⟩
              subst hz
              cases X2
              case false =>
                have HNX2 : Hid (stPart f c m p (q + 1) = stPart f c m p q) := by unfold Hid; rw [stPart_next]; unfold cndS; rw [HX1.out, HX2.out]; rfl
                have HB2 : Hid (Nrow wy N (rl P (midS f c m p (q + 1)))) := by unfold Hid; rw [midS_same HNX2.out]; exact HB.out
                clear HB HNX2
                go_wp2
                go_roundw
                case rel => exact ⟨q + 1, by omega, by go_num, HB2, hxq⟩
                case measure => simp [intOf]; omega
              have K := refbeside_any _ f (distL f) (q : Int) (p : Int) wy (HFF.out wy (h1.trans (hx.trans hxq))) HS.out
              rw [besideB_far HOK.out (by omega) (by omega)] at K
              obtain ⟨BS, hBS⟩ : ∃ BS, decide (farM f q p ≤ 1) = BS := ⟨_, rfl⟩
              rw [hBS] at K
              have HBS := hid hBS
              have HK := hid K
              clear K hBS
              go_wp2_with fail
              clear q0 q1 q2 q3 q4 q5 g7 g8
              refine HK.out.mono ?_
              clear HK
              rintro e w6 ⟨rfl, hb⟩
              have HB6 := hid (HB.out.ext hb)
              have hx6 := hxq.trans hb
              clear HB hb
              cases BS
              case false =>
                have HNX2 : Hid (stPart f c m p (q + 1) = stPart f c m p q) := by unfold Hid; rw [stPart_next]; unfold cndS; rw [HX1.out, HX2.out, HBS.out]; rfl
                have HB2 : Hid (Nrow w6 N (rl P (midS f c m p (q + 1)))) := by unfold Hid; rw [midS_same HNX2.out]; exact HB6.out
                clear HB6 HNX2
                go_wp2
                go_roundw
                case rel => exact ⟨q + 1, by omega, by go_num, HB2, hx6⟩
                case measure => simp [intOf]; omega
              have g1 := (HRB.out.ext hx6).at_ (rl_get (stR (farM f) f c m) hlq)
              have g2 := HB6.out.at_ (rl_get (midS f c m p q) hlp)
              rw [midS_at] at g2
              have hfz := HB6.out.frozen p
              have hb1 := stR_le (g := farM f) (f := f) (c := c) m q
              have hb2 := stPart_le (f := f) (c := c) (m := m) (p := p) q
              have HNX : Hid (stPart f c m p (q + 1) = max (stPart f c m p q) (stR (farM f) f c m q + stay1 p q)) := by
                unfold Hid; rw [stPart_next]; unfold cndS; rw [HX1.out, HX2.out, HBS.out]; rfl
              obtain ⟨Y, hY⟩ : ∃ Y, stR (farM f) f c m q = Y := ⟨_, rfl⟩
              obtain ⟨Z, hZ⟩ : ∃ Z, stPart f c m p q = Z := ⟨_, rfl⟩
              rw [hY] at g1 hb1 HNX
              rw [hZ] at g2 hb2 HNX
              clear hY hZ
              by_cases hpq : p = q
              · have bq : ((p : Int) == (q : Int)) = true := by simp [hpq]
                have HST1 : Hid (stay1 p q = 1) := by unfold Hid stay1; rw [if_pos hpq]
                rw [HST1.out] at HNX
                have hwy : IntKind.i64.wrap (Y + 1) = Y + 1 := IntWalk.i64_in _ ⟨by omega, by omega⟩
                clear hpq
                by_cases hyz : Z < Y + 1
                · have HB7 : Hid (Nrow (w6.setCell ⟨N, p, none⟩ (.int .i64 (Y + 1))) N (rl P (midS f c m p (q + 1)))) := by
                    have hX : ((Y + 1) : Int) = stPart f c m p (q + 1) := by rw [HNX.out]; omega
                    unfold Hid; rw [← midS_set hX]; exact HB6.out.set p _
                  have hx7 : Ext wo (w6.setCell ⟨N, p, none⟩ (.int .i64 (Y + 1))) := hx6.setCell (by have := HNS.out; show wo.heap.size ≤ N; omega) _
                  clear HNX HB6
                  go_wp2
                  go_roundw
                  case rel => exact ⟨q + 1, by omega, by go_num, HB7, hx7⟩
                  case measure => simp [intOf]; omega
                · have HB7 : Hid (Nrow (w6.setCell ⟨N, p, none⟩ (.int .i64 Z)) N (rl P (midS f c m p (q + 1)))) := by
                    have hX : (Z : Int) = stPart f c m p (q + 1) := by rw [HNX.out]; omega
                    unfold Hid; rw [← midS_set hX]; exact HB6.out.set p _
                  have hx7 : Ext wo (w6.setCell ⟨N, p, none⟩ (.int .i64 Z)) := hx6.setCell (by have := HNS.out; show wo.heap.size ≤ N; omega) _
                  clear HNX HB6
                  go_wp2
                  go_roundw
                  case rel => exact ⟨q + 1, by omega, by go_num, HB7, hx7⟩
                  case measure => simp [intOf]; omega
              · have bq : ((p : Int) == (q : Int)) = false := by simp; omega
                have HST1 : Hid (stay1 p q = 0) := by unfold Hid stay1; rw [if_neg hpq]
                rw [HST1.out, Int.add_zero] at HNX
                by_cases hyz : Z < Y
                · have HB7 : Hid (Nrow (w6.setCell ⟨N, p, none⟩ (.int .i64 Y)) N (rl P (midS f c m p (q + 1)))) := by
                    have hX : (Y : Int) = stPart f c m p (q + 1) := by rw [HNX.out]; omega
                    unfold Hid; rw [← midS_set hX]; exact HB6.out.set p _
                  have hx7 : Ext wo (w6.setCell ⟨N, p, none⟩ (.int .i64 Y)) := hx6.setCell (by have := HNS.out; show wo.heap.size ≤ N; omega) _
                  clear HNX HB6
                  go_wp2
                  go_roundw
                  case rel => exact ⟨q + 1, by omega, by go_num, HB7, hx7⟩
                  case measure => simp [intOf]; omega
                · have HB7 : Hid (Nrow (w6.setCell ⟨N, p, none⟩ (.int .i64 Z)) N (rl P (midS f c m p (q + 1)))) := by
                    have hX : (Z : Int) = stPart f c m p (q + 1) := by rw [HNX.out]; omega
                    unfold Hid; rw [← midS_set hX]; exact HB6.out.set p _
                  have hx7 : Ext wo (w6.setCell ⟨N, p, none⟩ (.int .i64 Z)) := hx6.setCell (by have := HNS.out; show wo.heap.size ≤ N; omega) _
                  clear HNX HB6
                  go_wp2
                  go_roundw
                  case rel => exact ⟨q + 1, by omega, by go_num, HB7, hx7⟩
                  case measure => simp [intOf]; omega
            · have hlq' : ¬ (q : Int) < (P : Int) := by omega
              have hqe : q = P := by omega
              have HNE : Hid (Nrow wr N (rl P (doneS f c m (p + 1)))) := by
                have h := HB.out
                rw [hqe, midS_done HP.out] at h
                exact h
              clear HB hqe
              go_wp2
              go_roundw
              case rel => exact ⟨p + 1, by omega, by go_num, HNE, hxq⟩
              case measure => simp [intOf]; omega
        · have hlp' : ¬ (p : Int) < (P : Int) := by omega
          have hpe : p = P := by omega
          have HNE : Hid (Nrow wr N (rl P (stR (farM f) f c (m + 1)))) := by
            have h := HNR.out
            rw [hpe, doneS_all] at h
            exact h
          clear HNR hpe
          go_wp2
          go_roundw
          case rel => exact ⟨m + 1, N, by omega, by go_num, rfl, HNE, hx.trans hxp⟩
          case measure => simp [intOf]; omega
    · have hlt' : ¬ (m : Int) + 1 ≤ (Mi : Int) := by omega
      have hme : m = Mi := by omega
      subst hme
      go_wp2_with fail
      clear q0 q1 q2 q3 q4 q5
      obtain ⟨wo, hwo⟩ : ∃ wo, wo = wr := ⟨_, rfl⟩
      subst hwo
      go_loopw [13, 12] (fun i13 i12 wx => ∃ (j : Nat) (X : Int), j ≤ P ∧ i13 = .int .i64 (j : Int) ∧ i12 = .int .i64 X ∧ Hid (X = maxF (List.range j) (fun _ => true) (stR (farM f) f c m) 0) ∧ wo = wx) (fun i _ _ => P - (intOf i).toNat)
      case atStart => exact ⟨0, 0, Nat.zero_le _, rfl, rfl, rfl, (by first | rfl | trivial)⟩
      case round =>
        obtain ⟨j, X, hj, rfl, rfl, HX, hxw⟩ := hrel
        subst hxw
        by_cases hlj : j < P
        · have hlj' : (j : Int) < (P : Int) := by omega
          have g := HRB.out.at_ (rl_get (stR (farM f) f c m) hlj)
          obtain ⟨Y, hY⟩ : ∃ Y, stR (farM f) f c m j = Y := ⟨_, rfl⟩
          rw [hY] at g
          have HNX : Hid (maxF (List.range (j + 1)) (fun _ => true) (stR (farM f) f c m) 0 = max X Y) := by
            unfold Hid; rw [maxF_range, ← HX.out, hY]; rfl
          clear HX hY
          by_cases hxy : X < Y
          · have HM : Hid (Y = maxF (List.range (j + 1)) (fun _ => true) (stR (farM f) f c m) 0) := by unfold Hid; rw [HNX.out]; omega
            clear HNX
            go_wp2
            go_roundw
            case rel => exact ⟨j + 1, Y, by omega, by go_num, (by first | rfl | (simp; omega)), HM, (by first | rfl | trivial)⟩
            case measure => simp [intOf]; omega
          · have HM : Hid (X = maxF (List.range (j + 1)) (fun _ => true) (stR (farM f) f c m) 0) := by unfold Hid; rw [HNX.out]; omega
            clear HNX
            go_wp2
            go_roundw
            case rel => exact ⟨j + 1, X, by omega, by go_num, (by first | rfl | (simp; omega)), HM, (by first | rfl | trivial)⟩
            case measure => simp [intOf]; omega
        · have hlj' : ¬ (j : Int) < (P : Int) := by omega
          have hje : j = P := by omega
          have HV : Hid (X = SV) := by unfold Hid; rw [HX.out, hje]; exact HSV.out
          clear HX hje
          go_wp2
          go_ret
          exact ⟨by rw [HV.out]; rfl, (hx0.trans h1).trans hx⟩
end Go.Proofs.YtpbpcplboikpcaaGreat
