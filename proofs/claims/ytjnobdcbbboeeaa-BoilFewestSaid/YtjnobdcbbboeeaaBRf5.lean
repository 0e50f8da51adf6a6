/- The walks of the reference's Proves, Bounds and Meat of layer 8. Printed by my gen_brf5.py. -/
import Derived.Test.YtjnobdcbbboeeaaBRf4
namespace Go.Proofs.Ytjnobdcbbboeeaa
open Go Go.RowKit Go.Shelf
set_option linter.unusedVariables false
set_option linter.unusedSimpArgs false

def agnP (p : Int × Int) (q : Int × Int) : Bool := (q.1 == p.1) || (q.2 == p.2)
def fstR (l : List (Int × Int)) (k : Nat) : List Int := ((l.take k).map Prod.fst).reverse
def sndR (l : List (Int × Int)) (k : Nat) : List Int := ((l.take k).map Prod.snd).reverse
theorem agn_is (l : List (Int × Int)) (k : Nat) (p : Int × Int) : (memI p.1 (fstR l k) || memI p.2 (sndR l k)) = (l.take k).any (agnP p) := by
  unfold fstR sndR agnP
  rw [Bool.eq_iff_iff, Bool.or_eq_true, mem_memI, mem_memI, List.any_eq_true]
  simp only [List.mem_reverse, List.mem_map, Bool.or_eq_true, beq_iff_eq]
  constructor
  · rintro (⟨q, h1, h2⟩ | ⟨q, h1, h2⟩)
    · exact ⟨q, h1, .inl h2⟩
    · exact ⟨q, h1, .inr h2⟩
  · rintro ⟨q, h1, h2 | h2⟩
    · exact .inl ⟨q, h1, h2⟩
    · exact .inr ⟨q, h1, h2⟩
theorem prv_at {h : Hs} {l : List (Int × Int)} {k : Nat} {p : Int × Int} (hp : l[k]? = some p) : prvE h (fstR l k) (sndR l k) (l.drop k) = if (wgOK h p.1 && wgOK h p.2) = false then 1 else if claH h p.1.toNat p.2.toNat = false then 8 else if (l.take k).any (agnP p) = true then 5 else prvE h (fstR l (k + 1)) (sndR l (k + 1)) (l.drop (k + 1)) := by
  have h1 : k < l.length := (List.getElem?_eq_some_iff.1 hp).1
  have e1 : fstR l (k + 1) = p.1 :: fstR l k := by unfold fstR; rw [List.take_add_one, hp]; simp
  have e2 : sndR l (k + 1) = p.2 :: sndR l k := by unfold sndR; rw [List.take_add_one, hp]; simp
  rw [List.drop_eq_getElem_cons h1, (List.getElem?_eq_some_iff.1 hp).2, e1, e2, ← agn_is]
  rfl
set_option maxRecDepth 100000 in
set_option maxHeartbeats 8000000 in
theorem refproves_any (v : Value) (h : Hs) (Ap : Option Addr) (cp : Nat) (l : List (Int × Int)) (w : World) (hr : HsR w v h) (hs : h.sized) (hP : Prs w Ap l) (hl : l.length ≤ 1000000) :
    Calls Try.prog 40 #[v, .slice Ap l.length cp] w fun e w' => e = .returned (.tuple #[.int .i64 (provV h l), .int .i64 (provE h l)]) ∧ Ext w w' := by
  obtain ⟨A, c, rfl, hrw, hcap⟩ := hr
  obtain ⟨W0, hW0⟩ : ∃ W0, w.alloc (.cells #[.int .i64 h.mo, .int .i64 h.pk, .slice A h.ws.length c] 75) = W0 := ⟨_, rfl⟩
  have hx0 : Ext w W0 := by rw [← hW0]; exact Ext.alloc (Ext.refl w) _
  have b0 : W0.heap[w.heap.size]? = some (.cells #[.int .i64 h.mo, .int .i64 h.pk, .slice A h.ws.length c] 75 (0, 0)) := by rw [← hW0]; exact heap_alloc_new w _
  have FH : Hid (∀ w', Ext W0 w' → w'.cell? ⟨w.heap.size, 0, none⟩ = some (.int .i64 h.mo) ∧ w'.cell? ⟨w.heap.size, 1, none⟩ = some (.int .i64 h.pk) ∧ w'.cell? ⟨w.heap.size, 2, none⟩ = some (.slice A h.ws.length c)) := fun w' hx => by
    obtain ⟨q0, q1, q2, -⟩ := rhouse_cells b0
    exact ⟨hx.cell q0, hx.cell q1, hx.cell q2⟩
  have HRW : Hid (∀ w', Ext W0 w' → Wgs w' A h.ws) := fun w' hx => Rows.ext hrw (hx0.trans hx)
  have HW0 := hid hW0
  have KC := hid (refcheck_any (hval h A c) h W0 ⟨A, c, rfl, HRW.out W0 (Ext.refl _), hcap⟩ hs)
  obtain ⟨N, hN⟩ : ∃ N : Nat, h.ws.length = N := ⟨_, rfl⟩
  have HN := hid hN
  obtain ⟨T, hT⟩ : ∃ T, checkH h = T := ⟨_, rfl⟩
  have HT := hid hT
  rw [hT] at KC
  have HR : Hid (∀ w', Ext W0 w' → HsR w' (.agg #[.int .i64 h.mo, .int .i64 h.pk, .slice A N c]) h) := fun w' hx => ⟨A, c, by unfold hval; rw [hN], HRW.out w' hx, hcap⟩
  have HP : Hid (∀ w', Ext W0 w' → Prs w' Ap l) := fun w' hx => Rows.ext hP (hx0.trans hx)
  have hsz : N ≤ 9223372036854775807 := by rw [← hN]; exact hs
  rw [hN] at FH hW0 HW0
  unfold hval at KC
  rw [hN] at KC
  unfold hval
  rw [hN]
  clear hN hT hrw hcap HRW hW0 b0 hs hP
  go_enter Try.func40, Try.ntmps40
  go_upto_region 1 with fail
  rw [HW0.out]
  clear HW0
  obtain ⟨c0, c1, c2⟩ := FH.out W0 (Ext.refl _)
  go_wp2_with fail
  refine KC.out.mono ?_
  rintro e w2 ⟨rfl, h2⟩
  clear KC c0 c1 c2
  by_cases h0 : T = 0
  case neg =>
    have h0b : (T != 0) = true := by simpa using h0
    have HE : Hid (provE h l = T) := by unfold Hid provE; rw [HT.out, if_pos h0]
    have HV : Hid (provV h l = 0) := by unfold Hid provV; rw [HE.out, if_neg h0]
    go_wp2
    go_ret2
    exact ⟨by rw [HE.out, HV.out]; rfl, hx0.trans h2⟩
  subst h0
  have hk := checkH_ok HT.out
  have hn14 : N ≤ 14 := by rw [← HN.out]; exact hk.len
  have HMM : Hid (∀ x ∈ h.ws, WgM x) := fun x hx => wgM_of hk hx
  have HPR : Hid (provE h l = prvE h (fstR l 0) (sndR l 0) (l.drop 0)) := by unfold Hid provE; rw [HT.out, if_neg (by simp)]; rfl
  have hw1 : IntKind.i64.wrap ((N : Int) - 1) = (N : Int) - 1 := IntWalk.i64_in _ ⟨by omega, by omega⟩
  clear hk HT
  go_wp2
  go_loopw [7] (fun i wr => ∃ k : Nat, k ≤ l.length ∧ i = .int .i64 (k : Int) ∧ Ext W0 wr ∧ Hid (provE h l = prvE h (fstR l k) (sndR l k) (l.drop k))) (fun i _ => l.length - (intOf i).toNat)
  case atStart => exact ⟨0, Nat.zero_le _, rfl, h2, HPR⟩
  case round =>
    obtain ⟨k, hk, rfl, hx, HQ⟩ := hrel
    by_cases hlt : k < l.length
    · have hlt' : (k : Int) < (l.length : Int) := by omega
      obtain ⟨p, hpk⟩ := get_of_lt l k hlt
      have HPE := HQ.out
      rw [prv_at hpk] at HPE
      have HPE := hid HPE
      obtain ⟨b1, o1, rfl, g0, g1⟩ := prs_get (HP.out wr hx) hpk
      obtain ⟨W6, hW6⟩ : ∃ W6, wr.alloc (.cells #[.int .i64 p.1, .int .i64 p.2] 150) = W6 := ⟨_, rfl⟩
      have hx6 : Ext wr W6 := by rw [← hW6]; exact (Ext.refl _).alloc _
      have bp : W6.heap[wr.heap.size]? = some (.cells #[.int .i64 p.1, .int .i64 p.2] 150 (0, 0)) := by rw [← hW6]; exact heap_alloc_new wr _
      go_upto_region 8 with fail
      try rw [hW6]
      clear hW6 g0 g1
      have hx7 := hx.trans hx6
      obtain ⟨c0, c1, c2⟩ := FH.out W6 hx7
      obtain ⟨g0, g1, -⟩ := rat_cells bp
      go_wp2_with fail
      refine (off_any _ _ _ _).mono ?_
      rintro e w1 ⟨rfl, rfl⟩
      cases q1 : inB p.1 0 ((N : Int) - 1)
      · have HE : Hid (provE h l = 1) := by unfold Hid; rw [HPE.out, if_pos (by unfold wgOK; rw [HN.out, q1]; rfl)]
        have HV : Hid (provV h l = 0) := by unfold Hid provV; rw [HE.out]; rfl
        go_wp2
        go_ret2
        exact ⟨by rw [HE.out, HV.out]; rfl, hx0.trans hx7⟩
      · go_wp2_with fail
        refine (off_any _ _ _ _).mono ?_
        rintro e w1 ⟨rfl, rfl⟩
        cases q2 : inB p.2 0 ((N : Int) - 1)
        · have HE : Hid (provE h l = 1) := by unfold Hid; rw [HPE.out, if_pos (by unfold wgOK; rw [HN.out, q2, Bool.and_false])]
          have HV : Hid (provV h l = 0) := by unfold Hid provV; rw [HE.out]; rfl
          go_wp2
          go_ret2
          exact ⟨by rw [HE.out, HV.out]; rfl, hx0.trans hx7⟩
        · have k1 := inB_iff.1 q1
          have k2 := inB_iff.1 q2
          have HOK : Hid ((wgOK h p.1 && wgOK h p.2) = true) := by unfold Hid wgOK; rw [HN.out, q1, q2]; rfl
          have e1 : ((p.1.toNat : Nat) : Int) = p.1 := by omega
          have e2 : ((p.2.toNat : Nat) : Int) = p.2 := by omega
          have KL := refclashes_any _ h p.1.toNat p.2.toNat W6 (HR.out W6 hx7) (by rw [HN.out]; omega) (by rw [HN.out]; omega) HMM.out
          rw [e1, e2] at KL
          obtain ⟨C, hC⟩ : ∃ C, claH h p.1.toNat p.2.toNat = C := ⟨_, rfl⟩
          rw [hC] at KL HPE
          have KL := hid KL
          clear hC e1 e2 q1 q2 k1 k2
          go_wp2_with fail
          refine KL.out.mono ?_
          rintro e w8 ⟨rfl, hx8⟩
          clear KL c0 c1 c2 g0 g1
          cases C with
          | false =>
            have HE : Hid (provE h l = 8) := by unfold Hid; rw [HPE.out, HOK.out, if_neg (by simp), if_pos rfl]
            have HV : Hid (provV h l = 0) := by unfold Hid provV; rw [HE.out]; rfl
            go_wp2
            go_ret2
            exact ⟨by rw [HE.out, HV.out]; rfl, hx0.trans (hx7.trans hx8)⟩
          | true =>
            have HP2 : Hid (provE h l = if (l.take k).any (agnP p) = true then 5 else prvE h (fstR l (k + 1)) (sndR l (k + 1)) (l.drop (k + 1))) := by unfold Hid; rw [HPE.out, HOK.out]; rfl
            have h8 := hx7.trans hx8
            have FP : Hid (∀ w', Ext w8 w' → w'.cell? ⟨wr.heap.size, 0, none⟩ = some (.int .i64 p.1) ∧ w'.cell? ⟨wr.heap.size, 1, none⟩ = some (.int .i64 p.2)) := fun w' hw => by
              obtain ⟨q0, q1, -⟩ := rat_cells bp
              exact ⟨(hx8.trans hw).cell q0, (hx8.trans hw).cell q1⟩
            clear HPE HQ bp
            obtain ⟨wo, rfl⟩ : ∃ wo : World, wo = wr := ⟨_, rfl⟩
            go_wp2
            go_loopw [9] (fun i wr => ∃ j : Nat, j ≤ k ∧ i = .int .i64 (j : Int) ∧ Ext w8 wr ∧ Hid ((l.take j).any (agnP p) = false)) (fun i _ => k - (intOf i).toNat)
            case atStart => exact ⟨0, Nat.zero_le _, rfl, Ext.refl _, rfl⟩
            case round =>
              obtain ⟨j, hj, rfl, hxj, HJ⟩ := hrel
              by_cases hlj : j < k
              · have hlj' : (j : Int) < (k : Int) := by omega
                have hlj2 : (j : Int) < (l.length : Int) := by omega
                obtain ⟨q, hqj⟩ := get_of_lt l j (by omega)
                obtain ⟨b2, o2, e2, r0, r1⟩ := prs_get (HP.out wr (h8.trans hxj)) hqj
                cases e2
                obtain ⟨g0, g1⟩ := FP.out wr hxj
                have HNX : Hid ((l.take (j + 1)).any (agnP p) = agnP p q) := by unfold Hid; rw [List.take_add_one, hqj, List.any_append, HJ.out]; simp
                have HBAD : Hid (agnP p q = true → (l.take k).any (agnP p) = true) := fun e => List.any_eq_true.2 ⟨q, List.mem_of_getElem? (i := j) (by rw [List.getElem?_take_of_lt hlj]; exact hqj), e⟩
                obtain ⟨B1, hB1⟩ : ∃ b, (q.1 == p.1) = b := ⟨_, rfl⟩
                obtain ⟨B2, hB2⟩ : ∃ b, (q.2 == p.2) = b := ⟨_, rfl⟩
                have HG : Hid (agnP p q = (B1 || B2)) := by unfold Hid agnP; rw [hB1, hB2]
                clear hqj
                cases B1 with
                | true =>
                  have HE : Hid (provE h l = 5) := by unfold Hid; rw [HP2.out, if_pos (HBAD.out (by rw [HG.out]; rfl))]
                  have HV : Hid (provV h l = 0) := by unfold Hid provV; rw [HE.out]; rfl
                  go_wp2
                  go_quiet (fail)
                  go_wp2
                  go_ret2
                  exact ⟨by rw [HE.out, HV.out]; rfl, (hx0.trans (h8.trans hxj)).drewN _⟩
                | false =>
                  cases B2 with
                  | true =>
                    have HE : Hid (provE h l = 5) := by unfold Hid; rw [HP2.out, if_pos (HBAD.out (by rw [HG.out]; rfl))]
                    have HV : Hid (provV h l = 0) := by unfold Hid provV; rw [HE.out]; rfl
                    go_wp2
                    go_quiet (fail)
                    go_wp2
                    go_ret2
                    exact ⟨by rw [HE.out, HV.out]; rfl, (hx0.trans (h8.trans hxj)).drewN _⟩
                  | false =>
                    have HJ2 : Hid ((l.take (j + 1)).any (agnP p) = false) := by unfold Hid; rw [HNX.out, HG.out]; rfl
                    clear HNX HBAD HJ HG
                    go_wp2
                    go_quiet (fail)
                    go_wp2
                    go_roundw
                    case rel => exact ⟨j + 1, by omega, by go_num, hxj.drewN _, HJ2⟩
                    case measure => simp [intOf]; omega
              · have hlj' : ¬ (j : Int) < (k : Int) := by omega
                obtain rfl : j = k := by omega
                have HQ2 : Hid (provE h l = prvE h (fstR l (j + 1)) (sndR l (j + 1)) (l.drop (j + 1))) := by unfold Hid; rw [HP2.out, HJ.out, if_neg (by simp)]
                clear HP2 HJ
                go_wp2
                go_roundw
                case rel => exact ⟨j + 1, by omega, by go_num, h8.trans hxj, HQ2⟩
                case measure => simp [intOf]; omega
    · have hlt' : ¬ (k : Int) < (l.length : Int) := by omega
      obtain rfl : k = l.length := by omega
      have HE : Hid (provE h l = 0) := by unfold Hid; rw [HQ.out, List.drop_length]; rfl
      have HV : Hid (provV h l = (l.length : Int)) := by unfold Hid provV; rw [HE.out, if_pos rfl]
      go_wp2
      go_ret2
      exact ⟨by rw [HE.out, HV.out]; rfl, hx0.trans hx⟩
end Go.Proofs.Ytjnobdcbbboeeaa
