/- The walks of the reference's Bad, Check and Everyone. Printed by my gen_ref2.py. -/
import Derived.Test.YtgnjhaomlbkgcaaRef1
import Derived.Test.YtgnjhaomlbkgcaaRegion3
import Derived.BigQuiet
namespace Go.Proofs.Ytgnjhaomlbkgcaa
open Go Go.RowKit
set_option linter.unusedVariables false
set_option linter.unusedSimpArgs false

def badR (ev : Int) (l : List Bd) : Int := if !limOK l then 3 else if !evOK ev l then 1 else if !diffOK l then 5 else 0
theorem checkC_bad {c : Cs} (h : manyOK c = true) : checkC c = if badR c.ev c.all = 3 then 3 else if badR c.ev c.all = 1 then 1 else if !witOK c.wi c.cl then 1 else badR c.ev c.all := by
  unfold checkC bdsC badR
  rw [h]
  cases limOK c.all <;> cases evOK c.ev c.all <;> cases witOK c.wi c.cl <;> cases diffOK c.all <;> rfl
theorem all_take {α : Type} {p : α → Bool} {l : List α} {k : Nat} {x : α} (h : (l.take k).all p = true) (hx : l[k]? = some x) (hp : p x = true) : (l.take (k + 1)).all p = true := by
  rw [take_next hx, List.all_append, h]
  simp [hp]
theorem all_false {α : Type} {p : α → Bool} {l : List α} {k : Nat} {x : α} (hx : l[k]? = some x) (hp : p x = false) : l.all p = false := by
  rw [List.all_eq_false]
  exact ⟨x, List.mem_of_getElem? hx, by simp [hp]⟩
theorem all_full {α : Type} {p : α → Bool} {l : List α} {k : Nat} (h : (l.take k).all p = true) (hk : l.length ≤ k) : l.all p = true := by
  rwa [List.take_of_length_le hk] at h

set_option maxRecDepth 100000 in
set_option maxHeartbeats 2000000 in
theorem refbad_any (A : Option Addr) (k0 : Nat) (l : List Bd) (ev : Int) (w : World) (hA : Bounds w A l) (hl : l.length ≤ 9223372036854775807) (h1 : 1 ≤ ev) (h8 : ev ≤ 8) :
    Calls Try.prog 68 #[.slice A l.length k0, .int .i64 ev] w fun e w' => e = .returned (.int .i64 (badR ev l)) ∧ Ext w w' := by
  obtain ⟨N, hN⟩ : ∃ N, badR ev l = N := ⟨_, rfl⟩
  have HN := hid hN
  rw [hN]
  clear hN
  have hwr : IntKind.i64.wrap (ev - 1) = ev - 1 := IntWalk.i64_in _ ⟨by omega, by omega⟩
  go_enter Try.func68, Try.ntmps68
  go_wp2
  go_loopw [5] (fun i wr => ∃ k : Nat, k ≤ l.length ∧ i = .int .i64 (k : Int) ∧ Ext w wr ∧ Hid ((l.take k).all (fun b => inB b.m (-1000) 1000) = true)) (fun i _ => l.length - (intOf i).toNat)
  case atStart => exact ⟨0, Nat.zero_le _, rfl, Ext.refl _, rfl⟩
  case round =>
    obtain ⟨k, hk, rfl, hx, HQ⟩ := hrel
    by_cases hlt : k < l.length
    · have hlt' : (k : Int) < (l.length : Int) := by omega
      obtain ⟨x, hxk⟩ := get_of_lt l k hlt
      obtain ⟨b, off, rfl, g0, g1, g2⟩ := (hA.ext hx).at_ hxk
      have HX := hid hxk
      clear hxk
      go_wp2_with fail
      refine (off_any _ _ _ _).mono ?_
      rintro e w1 ⟨rfl, rfl⟩
      cases hq : inB x.m (-1000) 1000
      · have H : Hid (N = 3) := by
          unfold Hid
          rw [← HN.out]
          unfold badR limOK
          rw [all_false HX.out hq]
          rfl
        go_wp2
        go_ret
        exact ⟨ret_of (int_of H.out.symm), hx⟩
      · have HQ2 : Hid ((l.take (k + 1)).all (fun b => inB b.m (-1000) 1000) = true) := all_take HQ.out HX.out hq
        clear HQ HX
        go_wp2
        go_roundw
        case rel => exact ⟨k + 1, by omega, by go_num, hx, HQ2⟩
        case measure => simp [intOf]; omega
    · have hlt' : ¬ (k : Int) < (l.length : Int) := by omega
      have HLIM : Hid (limOK l = true) := all_full HQ.out (by omega)
      clear HQ
      obtain ⟨wo, rfl⟩ : ∃ wo : World, wo = wr := ⟨_, rfl⟩
      go_wp2
      go_loopw [6] (fun i wr => ∃ k : Nat, k ≤ l.length ∧ i = .int .i64 (k : Int) ∧ Ext w wr ∧ Hid ((l.take k).all (fun b => inB b.f 0 (ev - 1) && inB b.t 0 (ev - 1)) = true)) (fun i _ => l.length - (intOf i).toNat)
      case atStart => exact ⟨0, Nat.zero_le _, rfl, hx, rfl⟩
      case round =>
        obtain ⟨k, hk, rfl, hx, HQ⟩ := hrel
        by_cases hlt : k < l.length
        · have hlt' : (k : Int) < (l.length : Int) := by omega
          obtain ⟨x, hxk⟩ := get_of_lt l k hlt
          obtain ⟨b, off, rfl, g0, g1, g2⟩ := (hA.ext hx).at_ hxk
          have HX := hid hxk
          clear hxk
          have H : Hid ((inB x.f 0 (ev - 1) && inB x.t 0 (ev - 1)) = false → N = 1) := fun hq => by
            rw [← HN.out]
            unfold badR evOK
            rw [HLIM.out, all_false (p := fun b : Bd => inB b.f 0 (ev - 1) && inB b.t 0 (ev - 1)) HX.out hq]
            rfl
          go_wp2_with fail
          refine (off_any _ _ _ _).mono ?_
          rintro e w1 ⟨rfl, rfl⟩
          cases hq : inB x.f 0 (ev - 1)
          · have H2 : Hid (N = 1) := H.out (by rw [hq]; rfl)
            go_wp2
            go_ret
            exact ⟨ret_of (int_of H2.out.symm), hx⟩
          · go_wp2_with fail
            refine (off_any _ _ _ _).mono ?_
            rintro e w1 ⟨rfl, rfl⟩
            cases hq2 : inB x.t 0 (ev - 1)
            · have H2 : Hid (N = 1) := H.out (by rw [hq, hq2]; rfl)
              go_wp2
              go_ret
              exact ⟨ret_of (int_of H2.out.symm), hx⟩
            · have HQ2 : Hid ((l.take (k + 1)).all (fun b => inB b.f 0 (ev - 1) && inB b.t 0 (ev - 1)) = true) := all_take HQ.out HX.out (by rw [hq, hq2]; rfl)
              clear HQ HX H
              go_wp2
              go_roundw
              case rel => exact ⟨k + 1, by omega, by go_num, hx, HQ2⟩
              case measure => simp [intOf]; omega
        · have hlt' : ¬ (k : Int) < (l.length : Int) := by omega
          have HEV : Hid (evOK ev l = true) := all_full HQ.out (by omega)
          clear HQ
          obtain ⟨wo, rfl⟩ : ∃ wo : World, wo = wr := ⟨_, rfl⟩
          go_wp2
          go_loopw [7] (fun i wr => ∃ k : Nat, k ≤ l.length ∧ i = .int .i64 (k : Int) ∧ Ext w wr ∧ Hid ((l.take k).all (fun b => b.f != b.t) = true)) (fun i _ => l.length - (intOf i).toNat)
          case atStart => exact ⟨0, Nat.zero_le _, rfl, hx, rfl⟩
          case round =>
            obtain ⟨k, hk, rfl, hx, HQ⟩ := hrel
            by_cases hlt : k < l.length
            · have hlt' : (k : Int) < (l.length : Int) := by omega
              obtain ⟨x, hxk⟩ := get_of_lt l k hlt
              obtain ⟨b, off, rfl, g0, g1, g2⟩ := (hA.ext hx).at_ hxk
              have HX := hid hxk
              clear hxk
              by_cases hq : x.f = x.t
              · have H : Hid (N = 5) := by
                  unfold Hid
                  rw [← HN.out]
                  unfold badR diffOK
                  rw [HLIM.out, HEV.out, all_false (p := fun b : Bd => b.f != b.t) HX.out (by simp [hq])]
                  rfl
                have hqb : (x.f == x.t) = true := by simpa using hq
                rw [hq] at g0 hqb
                clear hq
                go_wp2
                go_quiet (fail)
                go_wp2
                go_ret
                exact ⟨ret_of (int_of H.out.symm), hx.drewN _⟩
              · have HQ2 : Hid ((l.take (k + 1)).all (fun b => b.f != b.t) = true) := all_take HQ.out HX.out (by simpa using hq)
                have hqb : (x.f == x.t) = false := by simpa using hq
                clear HQ HX
                go_wp2
                go_quiet (fail)
                go_wp2
                go_roundw
                case rel => exact ⟨k + 1, by omega, by go_num, hx.drewN _, HQ2⟩
                case measure => simp [intOf]; omega
            · have hlt' : ¬ (k : Int) < (l.length : Int) := by omega
              have H : Hid (N = 0) := by
                unfold Hid
                rw [← HN.out]
                unfold badR
                rw [HLIM.out, HEV.out, show diffOK l = true from all_full HQ.out (by omega)]
                rfl
              go_wp2
              go_ret
              exact ⟨ret_of (int_of H.out.symm), hx⟩

set_option maxRecDepth 100000 in
set_option maxHeartbeats 4000000 in
theorem refcheck_any (v : Value) (c : Cs) (w : World) (hc : CsR w v c) (hs : c.sized) :
    Calls Try.prog 39 #[v] w fun e w' => e = .returned (.int .i64 (checkC c)) ∧ Ext w w' := by
  have hc' := hc
  obtain ⟨A1, c1, A2, c2, rfl, hB, hC⟩ := hc
  have hs' := hs
  obtain ⟨z1, z2, z3⟩ := hs'
  have Z3 := hid z3
  clear z3
  obtain ⟨N, hN⟩ : ∃ N, checkC c = N := ⟨_, rfl⟩
  have HN := hid hN
  rw [hN]
  clear hN
  obtain ⟨W0, hW0⟩ : ∃ W0, w.alloc (.cells #[.int .i64 c.ev, .slice A1 c.bs.length c1, .int .i64 c.wi, .slice A2 c.cl.length c2] 72) = W0 := ⟨_, rfl⟩
  have hx0 : Ext w W0 := by rw [← hW0]; exact Ext.alloc (Ext.refl w) _
  have FX : Hid (∀ w', Ext W0 w' → w'.cell? ⟨w.heap.size, 0, none⟩ = some (.int .i64 c.ev) ∧ w'.cell? ⟨w.heap.size, 1, none⟩ = some (.slice A1 c.bs.length c1) ∧ w'.cell? ⟨w.heap.size, 2, none⟩ = some (.int .i64 c.wi) ∧ w'.cell? ⟨w.heap.size, 3, none⟩ = some (.slice A2 c.cl.length c2)) := fun w' h => ⟨h.cell (by rw [← hW0]; simp [go_sem]), h.cell (by rw [← hW0]; simp [go_sem]), h.cell (by rw [← hW0]; simp [go_sem]), h.cell (by rw [← hW0]; simp [go_sem])⟩
  obtain ⟨q0, q1, q2, q3⟩ := FX.out W0 (Ext.refl _)
  go_enter Try.func39, Try.ntmps39
  go_wp2_with fail
  clear hW0
  refine (off_any _ _ _ _).mono ?_
  rintro e w1 ⟨rfl, rfl⟩
  cases hq1 : inB c.ev 1 8
  · have H : Hid (N = 2) := by unfold Hid; rw [← HN.out]; exact checkC_many (c := c) (by simp [manyOK, hq1])
    go_wp2
    go_ret
    exact ⟨ret_of (int_of H.out.symm), hx0⟩
  obtain ⟨he1, he8⟩ := inB_iff.1 hq1
  by_cases hq2 : c.bs.length ≤ 20
  case neg =>
    have hq2' : (20 : Int) < (c.bs.length : Int) := by omega
    have H : Hid (N = 2) := by unfold Hid; rw [← HN.out]; exact checkC_many (c := c) (by simp [manyOK, hq2])
    clear hq2
    go_wp2
    go_ret
    exact ⟨ret_of (int_of H.out.symm), hx0⟩
  have hq2' : ¬ (20 : Int) < (c.bs.length : Int) := by omega
  go_wp2_with fail
  refine (off_any _ _ _ _).mono ?_
  rintro e w1 ⟨rfl, rfl⟩
  cases hq3 : inB c.wi 0 6
  · have H : Hid (N = 2) := by unfold Hid; rw [← HN.out]; exact checkC_many (c := c) (by simp [manyOK, hq3])
    go_wp2
    go_ret
    exact ⟨ret_of (int_of H.out.symm), hx0⟩
  obtain ⟨hi0, hi6⟩ := inB_iff.1 hq3
  by_cases hq4 : c.cl.length ≤ 8
  case neg =>
    have hq4' : (8 : Int) < (c.cl.length : Int) := by omega
    have H : Hid (N = 2) := by unfold Hid; rw [← HN.out]; exact checkC_many (c := c) (by simp [manyOK, hq4])
    clear hq4
    go_wp2
    go_ret
    exact ⟨ret_of (int_of H.out.symm), hx0⟩
  have hq4' : ¬ (8 : Int) < (c.cl.length : Int) := by omega
  have HP : Hid (c.cl.all (fun x => decide (x.bs.length ≤ 4)) = true → manyOK c = true) := fun h => by simp only [manyOK, eachOK, hq1, hq3, h]; simp [hq2, hq4]
  have HP2 : Hid (c.cl.all (fun x => decide (x.bs.length ≤ 4)) = false → N = 2) := fun h => by rw [← HN.out]; exact checkC_many (c := c) (by simp only [manyOK, eachOK, h]; simp)
  have hwr : IntKind.i64.wrap (c.wi - 1) = c.wi - 1 := IntWalk.i64_in _ ⟨by omega, by omega⟩
  clear hq1 hq2 hq3 hq4
  go_wp2
  clear q0 q1 q2 q3
  go_loopw [3] (fun i wr => ∃ k : Nat, k ≤ c.cl.length ∧ i = .int .i64 (k : Int) ∧ Ext W0 wr ∧ Hid ((c.cl.take k).all (fun x => decide (x.bs.length ≤ 4)) = true)) (fun i _ => c.cl.length - (intOf i).toNat)
  case atStart => exact ⟨0, Nat.zero_le _, rfl, Ext.refl _, rfl⟩
  case round =>
    obtain ⟨k, hk, rfl, hx, HQ⟩ := hrel
    obtain ⟨q0, q1, q2, q3⟩ := FX.out _ hx
    by_cases hlt : k < c.cl.length
    · have hlt' : (k : Int) < (c.cl.length : Int) := by omega
      obtain ⟨x, hxk⟩ := get_of_lt c.cl k hlt
      obtain ⟨b, off, A4, c4, rfl, g0, g1, hB4⟩ := (hC.ext (hx0.trans hx)).at_ hxk
      have HX := hid hxk
      have hzx := Z3.out x (mem_of_get hxk)
      clear hxk
      by_cases hq : x.bs.length ≤ 4
      · have hq' : ¬ (4 : Int) < (x.bs.length : Int) := by omega
        have HQ2 : Hid ((c.cl.take (k + 1)).all (fun x => decide (x.bs.length ≤ 4)) = true) := all_take HQ.out HX.out (by simpa using hq)
        clear HQ HX hq
        go_wp2
        go_roundw
        case rel => exact ⟨k + 1, by omega, by go_num, hx, HQ2⟩
        case measure => simp [intOf]; omega
      · have hq' : (4 : Int) < (x.bs.length : Int) := by omega
        have H : Hid (N = 2) := HP2.out (all_false HX.out (by simpa using hq))
        clear HQ HX hq
        go_wp2
        go_ret
        exact ⟨ret_of (int_of H.out.symm), hx0.trans hx⟩
    · have hlt' : ¬ (k : Int) < (c.cl.length : Int) := by omega
      have HM : Hid (manyOK c = true) := HP.out (all_full HQ.out (by omega))
      have hal := all_len HM.out
      clear HQ HP HP2
      go_wp2
      clear q0 q1 q2 q3
      refine wp_region_opens Ext (fun w' => Ext wr w') (fun | 1 => some (fun v w' => ∃ A' c', v = .slice A' c.all.length c' ∧ Bounds w' A' c.all) | 4 => some (fun v _ => v = .int .i64 (badR c.ev c.all)) | _ => none) (by kernel_rfl) (by kernel_rfl) (fun _ _ h k => h.trans k) ?hT (Ext.drew (Ext.refl wr)) ?_
      case hT =>
        intro i R hR
        match i, hR with
        | 1, hR => cases hR; exact fun _ _ _ ⟨A', c', e, h⟩ k => ⟨A', c', e, h.ext k⟩
        | 4, hR => cases hR; exact fun _ _ _ h _ => h
      refine wpM_val0 ?ua0 rfl rfl Ext.refl (fun w' hD => ?ha0) (fun pha0 => ?na0)
      case ha0 =>
        obtain ⟨d0, d1, d2, d3⟩ := FX.out _ (hx.trans hD.1)
        go_simp; rfl
      simp only [Act.put, List.setIfInBounds_toArray, List.set_cons_succ, List.set_cons_zero, Nat.reduceAdd]
      refine wpM_op _ rfl rfl (opens_call ?fa1 ?ga1 (fun w' hD => ?ha1) (fun w' hD => ?ca1)) (fun v1 hv1 => ?na1)
      case ha1 => go_simp; constructor <;> rfl
      case ca1 =>
        refine (refall_any _ c w' ((hc'.ext (hx0.trans hx)).ext hD.1) (by omega) hs).mono ?_
        rintro e w2 ⟨A', c', rfl, ho, hb⟩
        exact ⟨_, rfl, hb, A', c', rfl, Rd.of_own ho⟩
      obtain ⟨_, -, -, A5, c5, rfl, -⟩ := hv1
      simp only [Act.put, List.setIfInBounds_toArray, List.set_cons_succ, List.set_cons_zero, Nat.reduceAdd]
      refine wpM_val0 ?ua2 rfl rfl Ext.refl (fun w' hD => ?ha2) (fun pha2 => ?na2)
      case ha2 =>
        obtain ⟨d0, d1, d2, d3⟩ := FX.out _ (hx.trans hD.1)
        go_simp; rfl
      simp only [Act.put, List.setIfInBounds_toArray, List.set_cons_succ, List.set_cons_zero, Nat.reduceAdd]
      refine wpM_val0 ?ua3 rfl rfl Ext.refl (fun w' hD => ?ha3) (fun pha3 => ?na3)
      case ha3 =>
        obtain ⟨d0, d1, d2, d3⟩ := FX.out _ (hx.trans hD.1)
        go_simp; rfl
      simp only [Act.put, List.setIfInBounds_toArray, List.set_cons_succ, List.set_cons_zero, Nat.reduceAdd]
      refine wpM_op _ rfl rfl (opens_call ?fa4 ?ga4 (fun w' hD => ?ha4) (fun w' hD => ?ca4)) (fun v4 hv4 => ?na4)
      case ha4 => go_simp; constructor <;> rfl
      case ca4 =>
        obtain ⟨A9, c9, e9, hB9⟩ := hD.get 1 (by kernel_rfl) |>.2
        cases e9
        refine (refbad_any A5 c5 c.all c.ev w' hB9 (by omega) he1 he8).mono ?_
        rintro e w2 ⟨rfl, hb⟩
        exact ⟨_, rfl, hb, rfl⟩
      obtain ⟨_, -, -, rfl⟩ := hv4
      simp only [Act.put, List.setIfInBounds_toArray, List.set_cons_succ, List.set_cons_zero, Nat.reduceAdd]
      refine wpM_val0 ?ua5 rfl rfl Ext.refl (fun w' hD => ?ha5) (fun pha5 => ?na5)
      case ha5 =>
        obtain ⟨d0, d1, d2, d3⟩ := FX.out _ (hx.trans hD.1)
        go_simp; rfl
      simp only [Act.put, List.setIfInBounds_toArray, List.set_cons_succ, List.set_cons_zero, Nat.reduceAdd]
      refine wpM_nil ?_
      intro w9 hw9 hF9
      have hx9 := hx.trans hw9
      have HB : Hid (N = if badR c.ev c.all = 3 then 3 else if badR c.ev c.all = 1 then 1 else if !witOK c.wi c.cl then 1 else badR c.ev c.all) := by unfold Hid; rw [← HN.out]; exact checkC_bad HM.out
      clear hF9
      obtain ⟨B, hB9⟩ : ∃ B, badR c.ev c.all = B := ⟨_, rfl⟩
      rw [hB9] at HB ⊢
      clear hB9
      obtain ⟨q0, q1, q2, q3⟩ := FX.out _ hx9
      by_cases hb3 : B = 3
      · subst hb3
        have H : Hid (N = 3) := HB.out
        go_wp2
        go_ret
        exact ⟨ret_of (int_of H.out.symm), hx0.trans hx9⟩
      have hb3' : (B == 3) = false := by simpa using hb3
      by_cases hb1 : B = 1
      · subst hb1
        have H : Hid (N = 1) := HB.out
        go_wp2
        go_ret
        exact ⟨ret_of (int_of H.out.symm), hx0.trans hx9⟩
      have hb1' : (B == 1) = false := by simpa using hb1
      have HB2 : Hid (N = if !witOK c.wi c.cl then 1 else B) := by unfold Hid; rw [HB.out, if_neg hb3, if_neg hb1]
      clear HB
      go_wp2
      clear q0 q1 q2 q3
      go_loopw [5] (fun i wr => ∃ k : Nat, k ≤ c.cl.length ∧ i = .int .i64 (k : Int) ∧ Ext W0 wr ∧ Hid ((c.cl.take k).all (fun x => inB x.w 0 (c.wi - 1)) = true)) (fun i _ => c.cl.length - (intOf i).toNat)
      case atStart => exact ⟨0, Nat.zero_le _, rfl, hx9, rfl⟩
      case round =>
        obtain ⟨k, hk, rfl, hx, HQ⟩ := hrel
        obtain ⟨q0, q1, q2, q3⟩ := FX.out _ hx
        by_cases hlt : k < c.cl.length
        · have hlt' : (k : Int) < (c.cl.length : Int) := by omega
          obtain ⟨x, hxk⟩ := get_of_lt c.cl k hlt
          obtain ⟨b, off, A4, c4, rfl, g0, g1, hB4⟩ := (hC.ext (hx0.trans hx)).at_ hxk
          have HX := hid hxk
          clear hxk
          go_wp2
          go_quiet ((go_at_call 100; exact Calls.quiet_of_same ((off_any _ _ _ _).mono fun e w' h => ⟨h.1, h.2.symm⟩)))
          cases hq : inB x.w 0 (c.wi - 1)
          · have H : Hid (N = 1) := by
              unfold Hid
              rw [HB2.out, if_pos (by rw [show witOK c.wi c.cl = false from all_false HX.out hq]; rfl)]
            go_wp2
            go_ret
            exact ⟨ret_of (int_of H.out.symm), (hx0.trans hx).drewN _⟩
          · have HQ2 : Hid ((c.cl.take (k + 1)).all (fun x => inB x.w 0 (c.wi - 1)) = true) := all_take HQ.out HX.out hq
            clear HQ HX
            go_wp2
            go_roundw
            case rel => exact ⟨k + 1, by omega, by go_num, hx.drewN _, HQ2⟩
            case measure => simp [intOf]; omega
        · have hlt' : ¬ (k : Int) < (c.cl.length : Int) := by omega
          have H : Hid (N = B) := by
            unfold Hid
            rw [HB2.out, show witOK c.wi c.cl = true from all_full HQ.out (by omega)]
            rfl
          go_wp2
          go_ret
          exact ⟨ret_of (int_of H.out.symm), hx0.trans hx⟩
end Go.Proofs.Ytgnjhaomlbkgcaa
