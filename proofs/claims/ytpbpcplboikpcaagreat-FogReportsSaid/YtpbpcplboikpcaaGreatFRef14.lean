/- The walk of the reference's Agree. Printed by my gen_fref14.py. -/
import Derived.Test.YtpbpcplboikpcaaGreatFSetP
import Derived.Test.YtpbpcplboikpcaaGreatG9
import Derived.Test.YtpbpcplboikpcaaGreatFAgree
namespace Go.Proofs.YtpbpcplboikpcaaGreat
open Go Go.RowKit Go.Shelf
set_option linter.unusedVariables false
set_option linter.unusedSimpArgs false

def refAgE (c : Ct) (l : List Int) : Int := if l.all fun i => inB i 0 ((c.rp.length : Int) - 1) then (if againL eqI [] l then 5 else 0) else 1
theorem eqI_mem (x : Int) (l : List Int) : l.any (eqI x) = memI x l := rfl
set_option maxRecDepth 100000 in
set_option maxHeartbeats 8000000 in
theorem refagree_any (v : Value) (f : Fg) (k : Nat) (c : Ct) (AC : Option Addr) (kC : Nat) (l : List Int) (w : World) (hf : RgR w v f (distL f)) (hs : f.sized) (hok : FogOK f) (hc : f.ct[k]? = some c) (hL : Ints w AC l) (hll : l.length ≤ 1000) :
    Calls Tryz.prog 28 #[v, .int .i64 (k : Int), .slice AC l.length kC] w fun e w' => e = .returned (.tuple #[.bool (decide (refAgE c l = 0) && agreedM (farM f) f c l), .int .i64 (refAgE c l)]) ∧ Ext w w' := by
  obtain ⟨s, A4, c4, rfl, hr, hd⟩ := hf
  have h8 := hok.rn c (mem_of_get hc)
  have HS := hid hs
  have HOK := hid hok
  have HC := hid hc
  have HLI := hid hL
  have hkl := (List.getElem?_eq_some_iff.1 hc).1
  have hkl' : (k : Int) < (f.ct.length : Int) := by omega
  obtain ⟨n, hn⟩ : ∃ n, c.rp.length = n := ⟨_, rfl⟩
  have hn8 : n ≤ 8 := by omega
  obtain ⟨EE, hEE⟩ : ∃ EE, refAgE c l = EE := ⟨_, rfl⟩
  have HEE : Hid (EE = if l.all (fun i => inB i 0 ((n : Int) - 1)) then (if againL eqI [] l then 5 else 0) else 1) := by unfold Hid; rw [← hEE]; unfold refAgE; rw [hn]
  obtain ⟨VV, hVV⟩ : ∃ VV, (decide (EE = 0) && agreedM (farM f) f c l) = VV := ⟨_, rfl⟩
  have HVV := hid hVV
  rw [hEE, hVV]
  obtain ⟨W0, hW0⟩ : ∃ W0, w.alloc (.cells #[.int .i64 f.pl, .int .i64 f.mi, .slice s.a1 f.tr.length s.c1, .slice s.a2 f.bl.length s.c2, .slice s.a3 f.ct.length s.c3, .slice A4 (distL f).length c4] 37) = W0 := ⟨_, rfl⟩
  have hx0 : Ext w W0 := by rw [← hW0]; exact Ext.alloc (Ext.refl w) _
  obtain ⟨b0, o0, A5, k5, A6, k6, e1, -, g1, -, -, -, -⟩ := (hr.ct.ext hx0).at_ hc
  rw [hn] at g1
  have FX : Hid (∀ w', Ext W0 w' → w'.cell? ⟨w.heap.size, 0, none⟩ = some (.int .i64 f.pl) ∧ w'.cell? ⟨w.heap.size, 1, none⟩ = some (.int .i64 f.mi) ∧ w'.cell? ⟨w.heap.size, 2, none⟩ = some (.slice s.a1 f.tr.length s.c1) ∧ w'.cell? ⟨w.heap.size, 3, none⟩ = some (.slice s.a2 f.bl.length s.c2) ∧ w'.cell? ⟨w.heap.size, 4, none⟩ = some (.slice (some ⟨b0, o0, none⟩) f.ct.length s.c3) ∧ w'.cell? ⟨w.heap.size, 5, none⟩ = some (.slice A4 (distL f).length c4) ∧ w'.cell? ⟨b0, o0 + k * 2 + 1, none⟩ = some (.slice A6 n k6)) := fun w' h =>
    ⟨h.cell (by rw [← hW0]; simp [go_sem]), h.cell (by rw [← hW0]; simp [go_sem]), h.cell (by rw [← hW0]; simp [go_sem]), h.cell (by rw [← hW0]; simp [go_sem]), h.cell (by rw [← hW0]; simp [go_sem, e1]), h.cell (by rw [← hW0]; simp [go_sem]), h.cell g1⟩
  have HF : Hid (∀ w', Ext w w' → RgR w' (.agg #[.int .i64 f.pl, .int .i64 f.mi, .slice s.a1 f.tr.length s.c1, .slice s.a2 f.bl.length s.c2, .slice (some ⟨b0, o0, none⟩) f.ct.length s.c3, .slice A4 (distL f).length c4]) f (distL f)) := fun w' h => ⟨s, A4, c4, by unfold rval; rw [e1], hr.ext h, hd.ext h⟩
  have HV : Hid (rval s f (.slice A4 (distL f).length c4) = .agg #[.int .i64 f.pl, .int .i64 f.mi, .slice s.a1 f.tr.length s.c1, .slice s.a2 f.bl.length s.c2, .slice (some ⟨b0, o0, none⟩) f.ct.length s.c3, .slice A4 (distL f).length c4]) := by unfold Hid rval; rw [e1]
  rw [HV.out]
  rw [e1] at hW0
  have hwr : IntKind.i64.wrap ((n : Int) - 1) = (n : Int) - 1 := IntWalk.i64_in _ ⟨by omega, by omega⟩
  clear hEE hVV hs hok hc hL g1 e1 HV hn h8
  go_enter Tryz.func28, Tryz.ntmps28
  go_wp2
  try rw [hW0]
  clear hW0
  go_loopw [9] (fun i9 wr => ∃ j : Nat, j ≤ l.length ∧ i9 = .int .i64 (j : Int) ∧ Hid ((l.take j).all (fun i => inB i 0 ((n : Int) - 1)) = true) ∧ Ext W0 wr) (fun i _ => l.length - (intOf i).toNat)
  case atStart => exact ⟨0, Nat.zero_le _, rfl, rfl, Ext.refl _⟩
  case round =>
    obtain ⟨j, hj, rfl, HQ, hxr⟩ := hrel
    by_cases hlt : j < l.length
    · have hlt' : (j : Int) < (l.length : Int) := by omega
      obtain ⟨x, hxj⟩ := get_of_lt l j hlt
      obtain ⟨b5, o5, e5, g5⟩ := (HLI.out.ext (hx0.trans hxr)).at_ hxj
      obtain ⟨PB, hPB⟩ : ∃ PB, inB x 0 ((n : Int) - 1) = PB := ⟨_, rfl⟩
      have HPB := hid hPB
      have HN1 : Hid (PB = true → (l.take (j + 1)).all (fun i => inB i 0 ((n : Int) - 1)) = true) := fun h => by
        rw [List.take_succ_eq_append_getElem hlt, (List.getElem?_eq_some_iff.1 hxj).2, List.all_append, HQ.out]
        simp [hPB, h]
      have HN2 : Hid (PB = false → EE = 1) := fun h => by
        rw [HEE.out]
        have : l.all (fun i => inB i 0 ((n : Int) - 1)) = false := by
          rw [List.all_eq_false]
          exact ⟨x, mem_of_get hxj, by rw [hPB, h]; simp⟩
        rw [this]; rfl
      clear hxj hPB
      subst e5
      go_wp2
      refine wp_region_shut Ext (fun w' => Ext wr w') (fun
        | 12 => some (fun v _ => v = .bool (!PB))
        | _ => none) (by kernel_rfl) (by kernel_rfl) (fun _ _ h k => h.trans k) ?hT (Ext.drew (Ext.refl wr)) ?_
      case hT =>
        intro i R hR
        match i, hR with
        | 12, hR => cases hR; exact fun _ _ _ h _ => h
      refine wM_val ?ua0 rfl rfl Ext.refl (fun w' hD => ?ha0) (fun pha0 => ?na0)
      case ha0 =>
        obtain ⟨d0, d1, d2, d3, d4, d5, d6⟩ := FX.out w' (hxr.trans hD.1); have d7 := hD.1.cell g5
        go_simp; rfl
      simp only [Act.put, List.setIfInBounds_toArray, List.set_cons_succ, List.set_cons_zero, Nat.reduceAdd]
      refine wM_val ?ua1 rfl rfl Ext.refl (fun w' hD => ?ha1) (fun pha1 => ?na1)
      case ha1 =>
        obtain ⟨d0, d1, d2, d3, d4, d5, d6⟩ := FX.out w' (hxr.trans hD.1); have d7 := hD.1.cell g5
        go_simp; rfl
      simp only [Act.put, List.setIfInBounds_toArray, List.set_cons_succ, List.set_cons_zero, Nat.reduceAdd]
      refine wM_val ?ua2 rfl rfl Ext.refl (fun w' hD => ?ha2) (fun pha2 => ?na2)
      case ha2 =>
        obtain ⟨d0, d1, d2, d3, d4, d5, d6⟩ := FX.out w' (hxr.trans hD.1); have d7 := hD.1.cell g5
        go_simp; rfl
      simp only [Act.put, List.setIfInBounds_toArray, List.set_cons_succ, List.set_cons_zero, Nat.reduceAdd]
      refine wM_val ?ua3 rfl rfl Ext.refl (fun w' hD => ?ha3) (fun pha3 => ?na3)
      case ha3 =>
        obtain ⟨d0, d1, d2, d3, d4, d5, d6⟩ := FX.out w' (hxr.trans hD.1); have d7 := hD.1.cell g5
        go_simp; rfl
      simp only [Act.put, List.setIfInBounds_toArray, List.set_cons_succ, List.set_cons_zero, Nat.reduceAdd]
      refine wM_val ?ua4 rfl rfl Ext.refl (fun w' hD => ?ha4) (fun pha4 => ?na4)
      case ha4 =>
        obtain ⟨d0, d1, d2, d3, d4, d5, d6⟩ := FX.out w' (hxr.trans hD.1); have d7 := hD.1.cell g5
        go_simp; rfl
      simp only [Act.put, List.setIfInBounds_toArray, List.set_cons_succ, List.set_cons_zero, Nat.reduceAdd]
      refine wM_val ?ua5 rfl rfl Ext.refl (fun w' hD => ?ha5) (fun pha5 => ?na5)
      case ha5 =>
        obtain ⟨d0, d1, d2, d3, d4, d5, d6⟩ := FX.out w' (hxr.trans hD.1); have d7 := hD.1.cell g5
        go_simp; rfl
      simp only [Act.put, List.setIfInBounds_toArray, List.set_cons_succ, List.set_cons_zero, Nat.reduceAdd]
      refine wM_val ?ua6 rfl rfl Ext.refl (fun w' hD => ?ha6) (fun pha6 => ?na6)
      case ha6 =>
        obtain ⟨d0, d1, d2, d3, d4, d5, d6⟩ := FX.out w' (hxr.trans hD.1); have d7 := hD.1.cell g5
        go_simp; rfl
      simp only [Act.put, List.setIfInBounds_toArray, List.set_cons_succ, List.set_cons_zero, Nat.reduceAdd]
      refine wM_val ?ua7 rfl rfl Ext.refl (fun w' hD => ?ha7) (fun pha7 => ?na7)
      case ha7 =>
        obtain ⟨d0, d1, d2, d3, d4, d5, d6⟩ := FX.out w' (hxr.trans hD.1); have d7 := hD.1.cell g5
        go_simp; rfl
      simp only [Act.put, List.setIfInBounds_toArray, List.set_cons_succ, List.set_cons_zero, Nat.reduceAdd]
      refine wM_val ?ua8 rfl rfl Ext.refl (fun w' hD => ?ha8) (fun pha8 => ?na8)
      case ha8 =>
        obtain ⟨d0, d1, d2, d3, d4, d5, d6⟩ := FX.out w' (hxr.trans hD.1); have d7 := hD.1.cell g5
        go_simp; rfl
      simp only [Act.put, List.setIfInBounds_toArray, List.set_cons_succ, List.set_cons_zero, Nat.reduceAdd]
      refine wM_val ?ua9 rfl rfl Ext.refl (fun w' hD => ?ha9) (fun pha9 => ?na9)
      case ha9 =>
        obtain ⟨d0, d1, d2, d3, d4, d5, d6⟩ := FX.out w' (hxr.trans hD.1); have d7 := hD.1.cell g5
        go_simp; rfl
      simp only [Act.put, List.setIfInBounds_toArray, List.set_cons_succ, List.set_cons_zero, Nat.reduceAdd]
      refine wM_val ?ua10 rfl rfl Ext.refl (fun w' hD => ?ha10) (fun pha10 => ?na10)
      case ha10 =>
        obtain ⟨d0, d1, d2, d3, d4, d5, d6⟩ := FX.out w' (hxr.trans hD.1); have d7 := hD.1.cell g5
        go_simp; rfl
      simp only [Act.put, List.setIfInBounds_toArray, List.set_cons_succ, List.set_cons_zero, Nat.reduceAdd]
      refine wM_val ?ua11 rfl rfl Ext.refl (fun w' hD => ?ha11) (fun pha11 => ?na11)
      case ha11 =>
        obtain ⟨d0, d1, d2, d3, d4, d5, d6⟩ := FX.out w' (hxr.trans hD.1); have d7 := hD.1.cell g5
        go_simp; rfl
      simp only [Act.put, List.setIfInBounds_toArray, List.set_cons_succ, List.set_cons_zero, Nat.reduceAdd]
      refine wM_op _ rfl rfl (opens_call ?fa12 ?ga12 (fun w' hD => ?ha12) (fun w' hD => ?ca12)) (fun v12 hv12 => ?na12)
      case ha12 => go_simp; constructor <;> rfl
      case ca12 =>
        refine (off_any _ _ _ _).mono ?_
        rintro e w2 ⟨rfl, rfl⟩
        exact ⟨_, rfl, Ext.refl _, by first | rw [HPB.out] | rw [hwr, HPB.out]⟩
      obtain ⟨_, -, -, rfl⟩ := hv12
      simp only [Act.put, List.setIfInBounds_toArray, List.set_cons_succ, List.set_cons_zero, Nat.reduceAdd]
      refine wM_nil ?_
      intro w9 hw9 hF9
      clear hF9
      have hx9 := hxr.trans hw9
      cases PB
      · have HE1 : Hid (EE = 1) := HN2.out rfl
        have HV1 : Hid (VV = false) := by unfold Hid; rw [← HVV.out, HE1.out]; rfl
        go_wp2
        go_ret2
        exact ⟨by rw [HE1.out, HV1.out]; rfl, hx0.trans hx9⟩
      · have HQ2 : Hid ((l.take (j + 1)).all (fun i => inB i 0 ((n : Int) - 1)) = true) := HN1.out rfl
        clear HN1 HN2 HQ
        go_wp2
        go_roundw
        case rel => exact ⟨j + 1, by omega, by go_num, HQ2, hx9⟩
        case measure => simp [intOf]; omega
    · have hlt' : ¬ (j : Int) < (l.length : Int) := by omega
      have hall := HQ.out
      rw [List.take_of_length_le (by omega)] at hall
      have HALL : Hid (∀ x ∈ l, 0 ≤ x ∧ x < (n : Int)) := fun x hx => by
        rw [List.all_eq_true] at hall
        have := inB_iff.1 (hall x hx)
        omega
      have HEE2 : Hid (EE = if againL eqI [] l then 5 else 0) := by unfold Hid; rw [HEE.out, hall, if_pos rfl]
      clear hall HQ HEE
      go_wp2
      go_loopw [10, 8] (fun i10 i8 wr => ∃ i S : Nat, i ≤ l.length ∧ i10 = .int .i64 (i : Int) ∧ i8 = .int .i64 (S : Int) ∧ Hid (SetOf n S (l.take i)) ∧ S < 256 ∧ Hid (againL eqI [] l = againL eqI (l.take i) (l.drop i)) ∧ Ext W0 wr) (fun i _ _ => l.length - (intOf i).toNat)
      case atStart => exact ⟨0, 0, Nat.zero_le _, rfl, rfl, SetOf.nil n, by omega, rfl, hxr⟩
      case round =>
        obtain ⟨i, S, hi, rfl, rfl, HST, hS, HAG, hxr⟩ := hrel
        by_cases hli : i < l.length
        · have hli' : (i : Int) < (l.length : Int) := by omega
          obtain ⟨x, hxi⟩ := get_of_lt l i hli
          have HXI := hid hxi
          have HAD := hid (againL_drop eqI l i x hxi)
          have hxb := HALL.out x (mem_of_get hxi)
          obtain ⟨r, rfl⟩ : ∃ r : Nat, x = r := ⟨x.toNat, by omega⟩
          have hrn : r < n := by omega
          clear hxi hxb
          obtain ⟨V, hV⟩ : ∃ V : World, V = wr := ⟨_, rfl⟩
          subst hV
          go_wp2
          go_loopw [11] (fun i11 wr => ∃ q : Nat, q ≤ i ∧ i11 = .int .i64 (q : Int) ∧ Hid ((l.take q).any (eqI (r : Int)) = false) ∧ Ext W0 wr) (fun i11 _ => i - (intOf i11).toNat)
          case atStart => exact ⟨0, Nat.zero_le _, rfl, rfl, hxr⟩
          case round =>
            obtain ⟨q, hq, rfl, HNO, hx⟩ := hrel
            obtain ⟨b5, o5, e5, g5⟩ := (HLI.out.ext (hx0.trans hx)).at_ HXI.out
            by_cases hlq : q < i
            · have hlq' : (q : Int) < (i : Int) := by omega
              obtain ⟨y, hyq⟩ := get_of_lt l q (by omega)
              obtain ⟨b6, o6, e6, g6⟩ := (HLI.out.ext (hx0.trans hx)).at_ hyq
              have hq2 : (q : Int) < (l.length : Int) := by omega
              have e56 : b6 = b5 ∧ o6 = o5 := by rw [e5] at e6; cases e6; exact ⟨rfl, rfl⟩
              obtain ⟨eb, eo⟩ := e56
              subst eb
              subst eo
              have HYQ := hid hyq
              clear e6 hyq
              subst e5
              by_cases hxy : (r : Int) = y
              · have bz : ((r : Int) == y) = true := by simp [hxy]
                have HA5 : Hid (againL eqI [] l = true) := by
                  unfold Hid
                  rw [HAG.out, HAD.out]
                  have : (l.take i).any (eqI (r : Int)) = true := by
                    rw [List.any_eq_true]
                    refine ⟨y, ?_, by unfold eqI; exact bz⟩
                    rw [List.mem_iff_getElem?]
                    exact ⟨q, by rw [List.getElem?_take, if_pos hlq]; exact HYQ.out⟩
                  rw [this]; rfl
                have HE5 : Hid (EE = 5) := by unfold Hid; rw [HEE2.out, HA5.out]; rfl
                have HV5 : Hid (VV = false) := by unfold Hid; rw [← HVV.out, HE5.out]; rfl
                clear hxy
                go_wp2
                go_quiet (fail)
                go_wp2
                go_ret2
                exact ⟨by rw [HE5.out, HV5.out]; rfl, hx0.trans (Ext.drewN hx _)⟩
              · have bz : ((r : Int) == y) = false := by simpa using hxy
                have HNO2 : Hid ((l.take (q + 1)).any (eqI (r : Int)) = false) := by
                  unfold Hid
                  rw [List.take_succ_eq_append_getElem (by omega), (List.getElem?_eq_some_iff.1 HYQ.out).2, List.any_append, HNO.out]
                  unfold eqI
                  simp [bz]
                clear hxy HNO
                go_wp2
                go_quiet (fail)
                go_wp2
                go_roundw
                case rel => exact ⟨q + 1, by omega, by go_num, HNO2, Ext.drewN hx _⟩
                case measure => simp [intOf]; omega
            · have hlq' : ¬ (q : Int) < (i : Int) := by omega
              have hqi : q = i := by omega
              have HNM : Hid (memI (r : Int) (l.take i) = false) := by
                have h := HNO.out
                rw [hqi, eqI_mem] at h
                exact h
              have HAG2 : Hid (againL eqI [] l = againL eqI (l.take (i + 1)) (l.drop (i + 1))) := by
                unfold Hid
                rw [HAG.out, HAD.out, eqI_mem, HNM.out]; rfl
              have HST2 : Hid (SetOf n (S + 2 ^ r) (l.take (i + 1))) := by
                unfold Hid
                rw [List.take_succ_eq_append_getElem hli, (List.getElem?_eq_some_iff.1 HXI.out).2]
                exact HST.out.add hrn HNM.out
              clear HNO HAG HST HAD hlq hqi
              subst e5
              obtain ⟨U, hU⟩ : ∃ V : World, V = wr := ⟨_, rfl⟩
              subst hU
              go_wp2
              go_loopw [13, 12] (fun i13 i12 wr => ∃ a Q : Nat, a ≤ r ∧ i13 = .int .i64 (a : Int) ∧ i12 = .int .i64 (Q : Int) ∧ Hid (Q = 2 ^ a) ∧ Q ≤ 256 ∧ U = wr) (fun i13 _ _ => r - (intOf i13).toNat)
              case atStart => exact ⟨0, 1, Nat.zero_le _, rfl, rfl, rfl, by omega, rfl⟩
              case round =>
                obtain ⟨a, Q, ha, rfl, rfl, HQ, hQ, rfl⟩ := hrel
                by_cases hla : a < r
                · have hla' : (a : Int) < (r : Int) := by omega
                  have HQ2 : Hid (2 * Q = 2 ^ (a + 1)) := by unfold Hid; rw [Nat.pow_succ, HQ.out]; omega
                  have hQ2 : 2 * Q ≤ 256 := by rw [HQ2.out]; exact pow_le8 (by omega)
                  go_wp2
                  go_roundw
                  case rel => exact ⟨a + 1, 2 * Q, by omega, by go_num, by go_num, HQ2, hQ2, by first | rfl | trivial⟩
                  case measure => simp [intOf]; omega
                · have hla' : ¬ (a : Int) < (r : Int) := by omega
                  have har : a = r := by omega
                  have HSQ : Hid (S + 2 ^ r = S + Q) := by unfold Hid; rw [HQ.out, har]
                  have hS2 : S + Q < 256 := by
                    have h1 := HST2.out.1
                    have h2 := pow_le8 hn8
                    rw [HSQ.out] at h1
                    omega
                  have HST3 : Hid (SetOf n (S + Q) (l.take (i + 1))) := by unfold Hid; rw [← HSQ.out]; exact HST2.out
                  clear HST2 har HQ
                  go_wp2
                  go_roundw
                  case rel => exact ⟨i + 1, S + Q, by omega, by go_num, by go_num, HST3, hS2, HAG2, hx⟩
                  case measure => simp [intOf]; omega
        · have hli' : ¬ (i : Int) < (l.length : Int) := by omega
          have HE0 : Hid (EE = 0) := by
            unfold Hid
            rw [HEE2.out, HAG.out, againL_end eqI l i (by omega)]; rfl
          obtain ⟨CN, hCN⟩ : ∃ CN, countM (farM f) f c (selS S) = CN := ⟨_, rfl⟩
          have HV0 : Hid (VV = decide (0 < CN)) := by
            have h := HST.out
            rw [List.take_of_length_le (by omega)] at h
            unfold Hid
            rw [← HVV.out, HE0.out, h.agreed, hCN]; rfl
          have K := refcount_any _ f k c S wr (HF.out wr (hx0.trans hxr)) HS.out HOK.out HC.out (by omega)
          rw [hCN] at K
          have HK := hid K
          obtain ⟨d0, d1, d2, d3, d4, d5, d6⟩ := FX.out wr hxr
          clear K hCN HAG HST
          go_wp2_with fail
          clear d0 d1 d2 d3 d4 d5 d6
          refine HK.out.mono ?_
          clear HK
          rintro e w9 ⟨rfl, hb9⟩
          go_wp2
          go_ret2
          exact ⟨by rw [HE0.out, HV0.out]; rfl, hx0.trans (hxr.trans hb9)⟩
end Go.Proofs.YtpbpcplboikpcaaGreat
