/- The reference's fog as it lies in memory; the walks of its off and there. Printed by my gen_fref1.py. -/
import Derived.Test.YtpbpcplboikpcaaGreatG4
namespace Go.Proofs.YtpbpcplboikpcaaGreat
open Go Go.RowKit
set_option linter.unusedVariables false
set_option linter.unusedSimpArgs false

theorem off_any (n lo hi : Int) (w : World) : Calls Tryz.prog 86 #[.int .i64 n, .int .i64 lo, .int .i64 hi] w fun e w' => e = .returned (.bool (!inB n lo hi)) ∧ w = w' := by
  by_cases h1 : n < lo
  · have H := hid (show (!inB n lo hi) = true by simp only [inB, Bool.not_eq_true', Bool.and_eq_false_iff, decide_eq_false_iff_not]; omega)
    go_enter Tryz.func86, Tryz.ntmps86
    go_wp2
    go_ret
    exact ⟨ret_of (bool_of H.out.symm), rfl⟩
  · by_cases h2 : n > hi
    · have H := hid (show (!inB n lo hi) = true by simp only [inB, Bool.not_eq_true', Bool.and_eq_false_iff, decide_eq_false_iff_not]; omega)
      go_enter Tryz.func86, Tryz.ntmps86
      go_wp2
      go_ret
      exact ⟨ret_of (bool_of H.out.symm), rfl⟩
    · have H := hid (show (!inB n lo hi) = false by simp only [inB, Bool.not_eq_false', Bool.and_eq_true, decide_eq_true_eq]; omega)
      go_enter Tryz.func86, Tryz.ntmps86
      go_wp2
      go_ret
      exact ⟨ret_of (bool_of H.out.symm), rfl⟩


theorem take_next {α : Type} {l : List α} {k : Nat} {x : α} (h : l[k]? = some x) : l.take (k + 1) = l.take k ++ [x] := by
  have hk : k < l.length := (List.getElem?_eq_some_iff.1 h).1
  rw [List.take_succ_eq_append_getElem hk, (List.getElem?_eq_some_iff.1 h).2]
theorem all_take {α : Type} {p : α → Bool} {l : List α} {k : Nat} {x : α} (h : (l.take k).all p = true) (hx : l[k]? = some x) (hp : p x = true) : (l.take (k + 1)).all p = true := by
  rw [take_next hx, List.all_append, h]
  simp [hp]
theorem all_false {α : Type} {p : α → Bool} {l : List α} {k : Nat} {x : α} (hx : l[k]? = some x) (hp : p x = false) : l.all p = false := by
  rw [List.all_eq_false]
  exact ⟨x, List.mem_of_getElem? hx, by simp [hp]⟩
theorem all_full {α : Type} {p : α → Bool} {l : List α} {k : Nat} (h : (l.take k).all p = true) (hk : l.length ≤ k) : l.all p = true := by
  rwa [List.take_of_length_le hk] at h
/-- The value of the reference's fog: its rows lie where s says, and its distances are dv. -/
def rval (s : Ads) (f : Fg) (dv : Value) : Value := .agg #[.int .i64 f.pl, .int .i64 f.mi, .slice s.a1 f.tr.length s.c1, .slice s.a2 f.bl.length s.c2, .slice s.a3 f.ct.length s.c3, dv]
/-- The reference's fog. -/
def RgR (w : World) (v : Value) (f : Fg) (d : List (List Int)) : Prop := ∃ s A4 c4, v = rval s f (.slice A4 d.length c4) ∧ FRows w s f ∧ IntRows w A4 d
theorem RgR.ext {w w' : World} {v : Value} {f : Fg} {d : List (List Int)} (h : RgR w v f d) (hx : Ext w w') : RgR w' v f d := by
  obtain ⟨s, A4, c4, e, h1, h2⟩ := h
  exact ⟨s, A4, c4, e, h1.ext hx, h2.ext hx⟩
def thereF (f : Fg) : Int := if !trF f then 1 else if !bpF f then 1 else if !ctF f then 1 else 0

set_option maxRecDepth 100000 in
set_option maxHeartbeats 4000000 in
theorem refthere_any (v : Value) (f : Fg) (d : List (List Int)) (w : World) (hf : RgR w v f d) (hs : f.sized) (h1 : 1 ≤ f.pl) (h8 : f.pl ≤ 8) :
    Calls Tryz.prog 87 #[v] w fun e w' => e = .returned (.int .i64 (thereF f)) ∧ Ext w w' := by
  obtain ⟨s, A4, c4, rfl, hr, hd⟩ := hf
  obtain ⟨dv, hdv⟩ : ∃ dv : Value, dv = .slice A4 d.length c4 := ⟨_, rfl⟩
  rw [← hdv]
  have hone : dv.oneCell' = true := by rw [hdv]; rfl
  clear hdv
  obtain ⟨N, hN⟩ : ∃ N, thereF f = N := ⟨_, rfl⟩
  have HN := hid hN
  rw [hN]
  clear hN
  obtain ⟨z1, z2, z3, z4⟩ := hs
  have Z3 := hid z4
  clear z4
  have hwr : IntKind.i64.wrap (f.pl - 1) = f.pl - 1 := IntWalk.i64_in _ ⟨by omega, by omega⟩
  have hwb : IntKind.i64.wrap ((f.bl.length : Int) - 1) = (f.bl.length : Int) - 1 := IntWalk.i64_in _ ⟨by omega, by omega⟩
  obtain ⟨W0, hW0⟩ : ∃ W0, w.alloc (.cells #[.int .i64 f.pl, .int .i64 f.mi, .slice s.a1 f.tr.length s.c1, .slice s.a2 f.bl.length s.c2, .slice s.a3 f.ct.length s.c3, dv] 37) = W0 := ⟨_, rfl⟩
  have hx0 : Ext w W0 := by rw [← hW0]; exact Ext.alloc (Ext.refl w) _
  have FX : Hid (∀ w', Ext W0 w' → w'.cell? ⟨w.heap.size, 0, none⟩ = some (.int .i64 f.pl) ∧ w'.cell? ⟨w.heap.size, 1, none⟩ = some (.int .i64 f.mi) ∧ w'.cell? ⟨w.heap.size, 2, none⟩ = some (.slice s.a1 f.tr.length s.c1) ∧ w'.cell? ⟨w.heap.size, 3, none⟩ = some (.slice s.a2 f.bl.length s.c2) ∧ w'.cell? ⟨w.heap.size, 4, none⟩ = some (.slice s.a3 f.ct.length s.c3)) := fun w' h =>
    ⟨h.cell (by rw [← hW0]; simp [go_sem]), h.cell (by rw [← hW0]; simp [go_sem]), h.cell (by rw [← hW0]; simp [go_sem]), h.cell (by rw [← hW0]; simp [go_sem]), h.cell (by rw [← hW0]; simp [go_sem])⟩
  obtain ⟨q0, q1, q2, q3, q4⟩ := FX.out W0 (Ext.refl _)
  unfold rval
  go_enter Tryz.func87, Tryz.ntmps87
  go_wp2
  try rw [hW0]
  clear hW0
  have hx := Ext.refl W0
  go_loopw [4] (fun i wr => ∃ k : Nat, k ≤ f.tr.length ∧ i = .int .i64 (k : Int) ∧ Ext W0 wr ∧ Hid ((f.tr.take k).all (fun t => plOK f t.1 && plOK f t.2) = true)) (fun i _ => f.tr.length - (intOf i).toNat)
  case atStart => exact ⟨0, Nat.zero_le _, rfl, hx, rfl⟩
  case round =>
    obtain ⟨k, hk, rfl, hx, HQ⟩ := hrel
    obtain ⟨q0, q1, q2, q3, q4⟩ := FX.out wr hx
    by_cases hlt : k < f.tr.length
    · have hlt' : (k : Int) < (f.tr.length : Int) := by omega
      obtain ⟨x, hxk⟩ := get_of_lt f.tr k hlt
      obtain ⟨b, off, e1, g0, g1⟩ := Prs.at_ (Rows.ext hr.tr (hx0.trans hx)) hxk
      rw [e1] at q2
      clear e1
      have HX := hid hxk
      clear hxk
      have H : Hid ((plOK f x.1 && plOK f x.2) = false → N = 1) := fun hq => by
        rw [← HN.out]
        unfold thereF trF
        rw [all_false (p := fun t => plOK f t.1 && plOK f t.2) HX.out hq]
        rfl
      unfold plOK at H
      go_wp2_with fail
      refine (off_any _ _ _ _).mono ?_
      rintro e w1 ⟨rfl, rfl⟩
      cases hq : inB x.1 0 (f.pl - 1)
      · have H2 : Hid (N = 1) := H.out (by simp [hq])
        go_wp2
        go_ret
        exact ⟨ret_of (int_of H2.out.symm), hx0.trans hx⟩
      · go_wp2_with fail
        refine (off_any _ _ _ _).mono ?_
        rintro e w1 ⟨rfl, rfl⟩
        cases hq2 : inB x.2 0 (f.pl - 1)
        · have H2 : Hid (N = 1) := H.out (by simp [hq, hq2])
          go_wp2
          go_ret
          exact ⟨ret_of (int_of H2.out.symm), hx0.trans hx⟩
        · have HQ2 : Hid ((f.tr.take (k + 1)).all (fun t => plOK f t.1 && plOK f t.2) = true) := all_take HQ.out HX.out (by simp [plOK, hq, hq2])
          clear HQ HX H
          go_wp2
          go_roundw
          case rel => exact ⟨k + 1, by omega, by go_num, hx, HQ2⟩
          case measure => simp [intOf]; omega
    · have hlt' : ¬ (k : Int) < (f.tr.length : Int) := by omega
      have HALL : Hid (f.tr.all (fun t => plOK f t.1 && plOK f t.2) = true) := all_full HQ.out (by omega)
      clear HQ
      have HTR : Hid (trF f = true) := HALL
      obtain ⟨wo, rfl⟩ : ∃ wo : World, wo = wr := ⟨_, rfl⟩
      go_wp2
      go_loopw [5] (fun i wr => ∃ k : Nat, k ≤ f.bl.length ∧ i = .int .i64 (k : Int) ∧ Ext W0 wr ∧ Hid ((f.bl.take k).all (fun b => plOK f b.pl) = true)) (fun i _ => f.bl.length - (intOf i).toNat)
      case atStart => exact ⟨0, Nat.zero_le _, rfl, hx, rfl⟩
      case round =>
        obtain ⟨k, hk, rfl, hx, HQ⟩ := hrel
        obtain ⟨q0, q1, q2, q3, q4⟩ := FX.out wr hx
        by_cases hlt : k < f.bl.length
        · have hlt' : (k : Int) < (f.bl.length : Int) := by omega
          obtain ⟨x, hxk⟩ := get_of_lt f.bl k hlt
          obtain ⟨b, off, e1, g0, g1, g2⟩ := Blasts.at_ (Rows.ext hr.bl (hx0.trans hx)) hxk
          rw [e1] at q3
          clear e1
          have HX := hid hxk
          clear hxk
          have H : Hid (plOK f x.pl = false → N = 1) := fun hq => by
            rw [← HN.out]
            unfold thereF
            rw [HTR.out]
            unfold bpF
            rw [all_false (p := fun b => plOK f b.pl) HX.out hq]
            rfl
          unfold plOK at H
          go_wp2_with fail
          refine (off_any _ _ _ _).mono ?_
          rintro e w1 ⟨rfl, rfl⟩
          cases hq : inB x.pl 0 (f.pl - 1)
          · have H2 : Hid (N = 1) := H.out (by simp [hq])
            go_wp2
            go_ret
            exact ⟨ret_of (int_of H2.out.symm), hx0.trans hx⟩
          · have HQ2 : Hid ((f.bl.take (k + 1)).all (fun b => plOK f b.pl) = true) := all_take HQ.out HX.out (by simp [plOK, hq])
            clear HQ HX H
            go_wp2
            go_roundw
            case rel => exact ⟨k + 1, by omega, by go_num, hx, HQ2⟩
            case measure => simp [intOf]; omega
        · have hlt' : ¬ (k : Int) < (f.bl.length : Int) := by omega
          have HALL : Hid (f.bl.all (fun b => plOK f b.pl) = true) := all_full HQ.out (by omega)
          clear HQ
          have HBP : Hid (bpF f = true) := HALL
          obtain ⟨wo, rfl⟩ : ∃ wo : World, wo = wr := ⟨_, rfl⟩
          go_wp2
          go_loopw [6] (fun i wr => ∃ k : Nat, k ≤ f.ct.length ∧ i = .int .i64 (k : Int) ∧ Ext W0 wr ∧ Hid ((f.ct.take k).all (fun c => c.st.all (plOK f) && c.rp.all fun r => blOK f r.bl) = true)) (fun i _ => f.ct.length - (intOf i).toNat)
          case atStart => exact ⟨0, Nat.zero_le _, rfl, hx, rfl⟩
          case round =>
            obtain ⟨k, hk, rfl, hx, HQ⟩ := hrel
            obtain ⟨q0, q1, q2, q3, q4⟩ := FX.out wr hx
            by_cases hlt : k < f.ct.length
            · have hlt' : (k : Int) < (f.ct.length : Int) := by omega
              obtain ⟨x, hxk⟩ := get_of_lt f.ct k hlt
              have HX := hid hxk
              have hzx := Z3.out x (mem_of_get hxk)
              clear hxk
              have H : Hid ((x.st.all (plOK f) && x.rp.all fun r => blOK f r.bl) = false → N = 1) := fun hq => by
                rw [← HN.out]
                unfold thereF
                rw [HTR.out, HBP.out]
                unfold ctF
                rw [all_false (p := fun c => c.st.all (plOK f) && c.rp.all fun r => blOK f r.bl) HX.out hq]
                rfl
              obtain ⟨wo, rfl⟩ : ∃ wo : World, wo = wr := ⟨_, rfl⟩
              go_wp2
              go_loopw [7] (fun i wr => ∃ m : Nat, m ≤ x.st.length ∧ i = .int .i64 (m : Int) ∧ Ext W0 wr ∧ Hid ((x.st.take m).all (plOK f) = true)) (fun i _ => x.st.length - (intOf i).toNat)
              case atStart => exact ⟨0, Nat.zero_le _, rfl, hx, rfl⟩
              case round =>
                obtain ⟨m, hm, rfl, hx, HQ2⟩ := hrel
                obtain ⟨q0, q1, q2, q3, q4⟩ := FX.out wr hx
                obtain ⟨b, off, A5, c5, A6, c6, e1, g0, g1, hst, hrp, -, -⟩ := (hr.ct.ext (hx0.trans hx)).at_ HX.out
                rw [e1] at q4
                clear e1
                by_cases hlm : m < x.st.length
                · have hlm' : (m : Int) < (x.st.length : Int) := by omega
                  obtain ⟨y, hym⟩ := get_of_lt x.st m hlm
                  obtain ⟨b5, o5, e2, g5⟩ := hst.at_ hym
                  rw [e2] at g0
                  clear e2
                  have HY := hid hym
                  clear hym
                  go_wp2_with fail
                  refine (off_any _ _ _ _).mono ?_
                  rintro e w1 ⟨rfl, rfl⟩
                  cases hq : inB y 0 (f.pl - 1)
                  · have H2 : Hid (N = 1) := H.out (by rw [all_false (l := x.st) (p := plOK f) HY.out (by simp [plOK, hq])]; simp)
                    go_wp2
                    go_ret
                    exact ⟨ret_of (int_of H2.out.symm), hx0.trans hx⟩
                  · have HQ3 : Hid ((x.st.take (m + 1)).all (plOK f) = true) := all_take HQ2.out HY.out (by simp [plOK, hq])
                    clear HQ2 HY H
                    go_wp2
                    go_roundw
                    case rel => exact ⟨m + 1, by omega, by go_num, hx, HQ3⟩
                    case measure => simp [intOf]; omega
                · have hlm' : ¬ (m : Int) < (x.st.length : Int) := by omega
                  have HIN : Hid (x.st.all (plOK f) = true) := all_full HQ2.out (by omega)
                  clear HQ2
                  have HST := HIN
                  clear HIN
                  obtain ⟨wo, rfl⟩ : ∃ wo : World, wo = wr := ⟨_, rfl⟩
                  go_wp2
                  go_loopw [8] (fun i wr => ∃ m : Nat, m ≤ x.rp.length ∧ i = .int .i64 (m : Int) ∧ Ext W0 wr ∧ Hid ((x.rp.take m).all (fun r => blOK f r.bl) = true)) (fun i _ => x.rp.length - (intOf i).toNat)
                  case atStart => exact ⟨0, Nat.zero_le _, rfl, hx, rfl⟩
                  case round =>
                    obtain ⟨m, hm, rfl, hx, HQ2⟩ := hrel
                    obtain ⟨q0, q1, q2, q3, q4⟩ := FX.out wr hx
                    obtain ⟨b, off, A5, c5, A6, c6, e1, g0, g1, hst, hrp, -, -⟩ := (hr.ct.ext (hx0.trans hx)).at_ HX.out
                    rw [e1] at q4
                    clear e1
                    by_cases hlm : m < x.rp.length
                    · have hlm' : (m : Int) < (x.rp.length : Int) := by omega
                      obtain ⟨y, hym⟩ := get_of_lt x.rp m hlm
                      obtain ⟨b5, o5, e2, g5, g6⟩ := Reps.at_ hrp hym
                      rw [e2] at g1
                      clear e2
                      have HY := hid hym
                      clear hym
                      have FY : Hid (∀ w', Ext wr w' → w'.cell? ⟨w.heap.size, 3, none⟩ = some (.slice s.a2 f.bl.length s.c2) ∧ w'.cell? ⟨w.heap.size, 4, none⟩ = some (.slice (some ⟨b, off, none⟩) f.ct.length s.c3) ∧ w'.cell? ⟨b, off + k * 2 + 1, none⟩ = some (.slice (some ⟨b5, o5, none⟩) x.rp.length c6) ∧ w'.cell? ⟨b5, o5 + m * 2, none⟩ = some (.int .i64 y.bl)) := fun w' h => ⟨h.cell q3, h.cell q4, h.cell g1, h.cell g5⟩
                      go_wp2_with fail
                      clear q0 q1 q2 q3 q4 g0 g1 g5 g6
                      refine wp_region_shut Ext (fun w' => Ext wr w') (fun | 14 => some (fun v _ => v = .bool (!inB y.bl 0 ((f.bl.length : Int) - 1))) | _ => none) (by kernel_rfl) (by kernel_rfl) (fun _ _ h k => h.trans k) ?hT (Ext.drew (Ext.refl wr)) ?_
                      case hT =>
                        intro i R hR
                        match i, hR with
                        | 14, hR => cases hR; exact fun _ _ _ h _ => h
                      refine wM_val ?ua0 rfl rfl Ext.refl (fun w' hD => ?ha0) (fun pha0 => ?na0)
                      case ha0 =>
                        obtain ⟨d0, d1, d2, d3⟩ := FY.out _ hD.1
                        go_simp; rfl
                      simp only [Act.put, List.setIfInBounds_toArray, List.set_cons_succ, List.set_cons_zero, Nat.reduceAdd]
                      refine wM_val ?ua1 rfl rfl Ext.refl (fun w' hD => ?ha1) (fun pha1 => ?na1)
                      case ha1 =>
                        obtain ⟨d0, d1, d2, d3⟩ := FY.out _ hD.1
                        go_simp; rfl
                      simp only [Act.put, List.setIfInBounds_toArray, List.set_cons_succ, List.set_cons_zero, Nat.reduceAdd]
                      refine wM_val ?ua2 rfl rfl Ext.refl (fun w' hD => ?ha2) (fun pha2 => ?na2)
                      case ha2 =>
                        obtain ⟨d0, d1, d2, d3⟩ := FY.out _ hD.1
                        go_simp; rfl
                      simp only [Act.put, List.setIfInBounds_toArray, List.set_cons_succ, List.set_cons_zero, Nat.reduceAdd]
                      refine wM_val ?ua3 rfl rfl Ext.refl (fun w' hD => ?ha3) (fun pha3 => ?na3)
                      case ha3 =>
                        obtain ⟨d0, d1, d2, d3⟩ := FY.out _ hD.1
                        go_simp; rfl
                      simp only [Act.put, List.setIfInBounds_toArray, List.set_cons_succ, List.set_cons_zero, Nat.reduceAdd]
                      refine wM_val ?ua4 rfl rfl Ext.refl (fun w' hD => ?ha4) (fun pha4 => ?na4)
                      case ha4 =>
                        obtain ⟨d0, d1, d2, d3⟩ := FY.out _ hD.1
                        go_simp; rfl
                      simp only [Act.put, List.setIfInBounds_toArray, List.set_cons_succ, List.set_cons_zero, Nat.reduceAdd]
                      refine wM_val ?ua5 rfl rfl Ext.refl (fun w' hD => ?ha5) (fun pha5 => ?na5)
                      case ha5 =>
                        obtain ⟨d0, d1, d2, d3⟩ := FY.out _ hD.1
                        go_simp; rfl
                      simp only [Act.put, List.setIfInBounds_toArray, List.set_cons_succ, List.set_cons_zero, Nat.reduceAdd]
                      refine wM_val ?ua6 rfl rfl Ext.refl (fun w' hD => ?ha6) (fun pha6 => ?na6)
                      case ha6 =>
                        obtain ⟨d0, d1, d2, d3⟩ := FY.out _ hD.1
                        go_simp; rfl
                      simp only [Act.put, List.setIfInBounds_toArray, List.set_cons_succ, List.set_cons_zero, Nat.reduceAdd]
                      refine wM_val ?ua7 rfl rfl Ext.refl (fun w' hD => ?ha7) (fun pha7 => ?na7)
                      case ha7 =>
                        obtain ⟨d0, d1, d2, d3⟩ := FY.out _ hD.1
                        go_simp; rfl
                      simp only [Act.put, List.setIfInBounds_toArray, List.set_cons_succ, List.set_cons_zero, Nat.reduceAdd]
                      refine wM_val ?ua8 rfl rfl Ext.refl (fun w' hD => ?ha8) (fun pha8 => ?na8)
                      case ha8 =>
                        obtain ⟨d0, d1, d2, d3⟩ := FY.out _ hD.1
                        go_simp; rfl
                      simp only [Act.put, List.setIfInBounds_toArray, List.set_cons_succ, List.set_cons_zero, Nat.reduceAdd]
                      refine wM_val ?ua9 rfl rfl Ext.refl (fun w' hD => ?ha9) (fun pha9 => ?na9)
                      case ha9 =>
                        obtain ⟨d0, d1, d2, d3⟩ := FY.out _ hD.1
                        go_simp; rfl
                      simp only [Act.put, List.setIfInBounds_toArray, List.set_cons_succ, List.set_cons_zero, Nat.reduceAdd]
                      refine wM_val ?ua10 rfl rfl Ext.refl (fun w' hD => ?ha10) (fun pha10 => ?na10)
                      case ha10 =>
                        obtain ⟨d0, d1, d2, d3⟩ := FY.out _ hD.1
                        go_simp; rfl
                      simp only [Act.put, List.setIfInBounds_toArray, List.set_cons_succ, List.set_cons_zero, Nat.reduceAdd]
                      refine wM_val ?ua11 rfl rfl Ext.refl (fun w' hD => ?ha11) (fun pha11 => ?na11)
                      case ha11 =>
                        obtain ⟨d0, d1, d2, d3⟩ := FY.out _ hD.1
                        go_simp; rfl
                      simp only [Act.put, List.setIfInBounds_toArray, List.set_cons_succ, List.set_cons_zero, Nat.reduceAdd]
                      refine wM_val ?ua12 rfl rfl Ext.refl (fun w' hD => ?ha12) (fun pha12 => ?na12)
                      case ha12 =>
                        obtain ⟨d0, d1, d2, d3⟩ := FY.out _ hD.1
                        go_simp; rfl
                      simp only [Act.put, List.setIfInBounds_toArray, List.set_cons_succ, List.set_cons_zero, Nat.reduceAdd]
                      refine wM_val ?ua13 rfl rfl Ext.refl (fun w' hD => ?ha13) (fun pha13 => ?na13)
                      case ha13 =>
                        obtain ⟨d0, d1, d2, d3⟩ := FY.out _ hD.1
                        go_simp; rfl
                      simp only [Act.put, List.setIfInBounds_toArray, List.set_cons_succ, List.set_cons_zero, Nat.reduceAdd]
                      refine wM_op _ rfl rfl (opens_call ?fa14 ?ga14 (fun w' hD => ?ha14) (fun w' hD => ?ca14)) (fun v14 hv14 => ?na14)
                      case ha14 => go_simp; constructor <;> rfl
                      case ca14 =>
                        refine (off_any _ _ _ w').mono ?_
                        rintro e w2 ⟨rfl, rfl⟩
                        exact ⟨_, rfl, Ext.refl _, rfl⟩
                      obtain ⟨_, -, -, rfl⟩ := hv14
                      simp only [Act.put, List.setIfInBounds_toArray, List.set_cons_succ, List.set_cons_zero, Nat.reduceAdd]
                      refine wM_nil ?_
                      intro w9 hw9 hF9
                      have hx := hx.trans hw9
                      clear FY
                      cases hq : inB y.bl 0 ((f.bl.length : Int) - 1)
                      · have H2 : Hid (N = 1) := H.out (by rw [all_false (l := x.rp) (p := fun r => blOK f r.bl) HY.out (by simp [blOK, hq])]; simp)
                        go_wp2
                        go_ret
                        exact ⟨ret_of (int_of H2.out.symm), hx0.trans hx⟩
                      · have HQ3 : Hid ((x.rp.take (m + 1)).all (fun r => blOK f r.bl) = true) := all_take HQ2.out HY.out (by simp [blOK, hq])
                        clear HQ2 HY H
                        go_wp2
                        go_roundw
                        case rel => exact ⟨m + 1, by omega, by go_num, hx, HQ3⟩
                        case measure => simp [intOf]; omega
                    · have hlm' : ¬ (m : Int) < (x.rp.length : Int) := by omega
                      have HIN : Hid (x.rp.all (fun r => blOK f r.bl) = true) := all_full HQ2.out (by omega)
                      clear HQ2
                      have HQ3 : Hid ((f.ct.take (k + 1)).all (fun c => c.st.all (plOK f) && c.rp.all fun r => blOK f r.bl) = true) := all_take HQ.out HX.out (by simp only [HST.out, HIN.out]; rfl)
                      clear HQ HX H
                      go_wp2
                      go_roundw
                      case rel => exact ⟨k + 1, by omega, by go_num, hx, HQ3⟩
                      case measure => simp [intOf]; omega
            · have hlt' : ¬ (k : Int) < (f.ct.length : Int) := by omega
              have HALL : Hid (f.ct.all (fun c => c.st.all (plOK f) && c.rp.all fun r => blOK f r.bl) = true) := all_full HQ.out (by omega)
              clear HQ
              have HN2 : Hid (N = 0) := by
                unfold Hid
                rw [← HN.out]
                unfold thereF ctF
                rw [HTR.out, HBP.out, HALL.out]
                rfl
              go_wp2
              go_ret
              exact ⟨ret_of (int_of HN2.out.symm), hx0.trans hx⟩
end Go.Proofs.YtpbpcplboikpcaaGreat
