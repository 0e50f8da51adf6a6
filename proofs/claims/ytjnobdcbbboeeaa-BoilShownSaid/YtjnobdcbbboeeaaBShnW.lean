/- The walk of BoilShown. Printed by my gen_bshw.py. -/
import Derived.Test.YtjnobdcbbboeeaaBOwnL
import Derived.Test.YtjnobdcbbboeeaaBShnP
import Derived.Test.YtjnobdcbbboeeaaHa
import Derived.Test.YtjnobdcbbboeeaaH6
import Derived.Deep.DeepCutAuto
import Derived.Deep.CutBlock
import Derived.Deep.QuietTactic
import Derived.Deep.RegionHeld3
import Derived.BigQuiet
namespace Go.Proofs.Ytjnobdcbbboeeaa
open Go Go.RowKit Go.Shelf
set_option linter.unusedVariables false
set_option linter.unusedSimpArgs false

theorem is_any (x : Wg) (r : Rt) (w : World) (hm : (1 ≤ x.sl ∧ x.sl ≤ x.sh ∧ x.sh ≤ 1000) ∧ 1 ≤ x.ml ∧ x.ml ≤ x.mh ∧ x.mh ≤ 1000) (hr : Rsm r) (h1 : x.ml * r.2 ≤ r.1 * x.sh) (h2 : r.1 * x.sl ≤ x.mh * r.2) :
    Calls Try.prog 66 #[x.val, rval r] w fun e w' => e = .returned (.bool true) ∧ Ext w w' := by
  have p1 := mul_small (x := x.ml) (y := r.2) (by omega) hr.2
  have p2 := mul_small (x := r.1) (y := x.sh) hr.1 (by omega)
  have p3 := mul_small (x := x.mh) (y := r.2) (by omega) hr.2
  have p4 := mul_small (x := r.1) (y := x.sl) hr.1 (by omega)
  have H1 : IntKind.i64.wrap (x.ml * r.2) = x.ml * r.2 := IntWalk.i64_in _ ⟨by omega, by omega⟩
  have H2 : IntKind.i64.wrap (r.1 * x.sh) = r.1 * x.sh := IntWalk.i64_in _ ⟨by omega, by omega⟩
  have H3 : IntKind.i64.wrap (x.mh * r.2) = x.mh * r.2 := IntWalk.i64_in _ ⟨by omega, by omega⟩
  have H4 : IntKind.i64.wrap (r.1 * x.sl) = r.1 * x.sl := IntWalk.i64_in _ ⟨by omega, by omega⟩
  have h2' : x.mh * r.2 ≥ r.1 * x.sl := h2
  clear p1 p2 p3 p4
  unfold Wg.val rval
  go_enter Try.func66, Try.ntmps66
  go_wp2
  go_ret
  exact ⟨rfl, Ext.alloc (Ext.alloc (Ext.refl w) _) _⟩
set_option maxRecDepth 100000 in
set_option maxHeartbeats 16000000 in
theorem boilshown_any (A : Option Addr) (l : List Int) (cap : Nat) (w : World) (hA : Bytes w A l) (hl : ∀ x ∈ l, 0 ≤ x ∧ x ≤ 255) (hlt : ∀ x, A = some x → l = [] ∨ x.block < w.heap.size) (hn : l.length ≤ 9223372036854775807) :
    Calls Try.prog 12 #[.slice A l.length cap] w fun e w' => e = .returned (.bool true) ∧ Below w.heap.size w w' := by
  go_enter Try.func12, Try.ntmps12
  go_wp2_with fail
  refine (pile_any A l cap w hA hl hlt hn).mono ?_
  rintro e w1 ⟨D, rfl, hD, x1, hh1⟩
  go_wp2_with fail
  refine (made_any D 12 14 0 w1 hh1 (by decide) (by decide) (by decide) (by decide)).mono ?_
  rintro e w2 ⟨h, rl, Ah, ch, A2, c2, rfl, HM, hoh, hor, hb2, -⟩
  have x2 : Ext w w2 := Bel.extw x1 hb2 hD
  have k := HM.ok
  have HMD := hid HM
  have hr2 : HsR w2 (hval h Ah ch) h := hsr_own hoh
  have hOR := hid hor
  clear hoh hor hb2 hh1 x1 HM
  unfold hval
  go_upto_region 2 with fail
  obtain ⟨P2, hP2⟩ : ∃ P2, w2.alloc (.cells #[.int .i64 h.mo, .int .i64 h.pk, .slice Ah h.ws.length ch] 25) = P2 := ⟨_, rfl⟩
  have xp : Ext w2 P2 := by rw [← hP2]; exact Ext.alloc (Ext.refl _) _
  have bp : P2.heap[w2.heap.size]? = some (.cells #[.int .i64 h.mo, .int .i64 h.pk, .slice Ah h.ws.length ch] 25 (0, 0)) := by rw [← hP2]; exact heap_alloc_new _ _
  try rw [hP2]
  clear hP2
  have hx2 : Ext w P2 := x2.trans xp
  have FH : Hid (∀ w', Ext P2 w' → w'.cell? ⟨w2.heap.size, 0, none⟩ = some (.int .i64 h.mo) ∧ w'.cell? ⟨w2.heap.size, 1, none⟩ = some (.int .i64 h.pk) ∧ w'.cell? ⟨w2.heap.size, 2, none⟩ = some (.slice Ah h.ws.length ch)) := fun w' hx => by
    obtain ⟨q0, q1, q2, -⟩ := house_cells bp
    exact ⟨hx.cell q0, hx.cell q1, hx.cell q2⟩
  have HR : Hid (∀ w', Ext P2 w' → HsR w' (hval h Ah ch) h) := fun w' hx => (hr2.ext xp).ext hx
  have hs : h.sized := by unfold Hs.sized; have := k.len; omega
  have HK := hid k
  have hmo := k.mo
  have hpk := k.pk
  have hlen := k.len
  have hmz : h.mo ≠ 0 := by omega
  have HPR : Hid (∀ w', Ext P2 w' → Prs w' A2 rl) := fun w' hx => ((Rd.of_own hOR.out).ext xp).ext hx
  clear k bp hr2 x2 xp hOR
  obtain ⟨N, hN⟩ : ∃ N : Nat, h.ws.length = N := ⟨_, rfl⟩
  have HN := hid hN
  rw [hN] at FH hlen ⊢
  clear hN
  have HS := hid (shn_ok HMD.out)
  obtain ⟨R, hR⟩ : ∃ R : Nat, rl.length = R := ⟨_, rfl⟩
  have HRL := hid hR
  have hme : h.mo = (R : Int) := by rw [← hR]; exact HS.out.rlL.symm
  obtain ⟨L, hL⟩ : ∃ L, shoV h = L := ⟨_, rfl⟩
  have HL := hid hL
  have HLR : Hid (L.length = R) := by unfold Hid; have := HS.out.shL; rw [hL, hme] at this; omega
  have HME := hid hme
  have hR12 : R ≤ 12 := by have := HMD.out.mo; omega
  have hR0 : 1 ≤ R := by omega
  have hK14 : rl.length ≤ 1000000 := by omega
  have hL14 : L.length ≤ 1000000 := by rw [HLR.out]; omega
  have KB : Hid (∀ (m : Int) w', Ext P2 w' → Calls Try.prog 19 #[hval h Ah ch, .int .i64 m] w' fun e w2 => e = .returned (.tuple #[rval (bndL h m), rval (bndU h m), .int .i64 (bndE h m)]) ∧ Ext w' w2) := fun m w' hx => bounds_any _ h m w' (HR.out w' hx) hs
  have KSH := hid (shownx_any _ h P2 (HR.out P2 (Ext.refl _)) hs)
  have KFE : Hid (∀ w', Ext P2 w' → _) := fun w' hx => fewest_any _ h w' (HR.out w' hx) hs
  have KTR : Hid (∀ w', Ext P2 w' → _) := fun w' hx => trusted_any _ h w' (HR.out w' hx) hs
  have KCL : Hid (∀ w', Ext P2 w' → _) := fun w' hx => clash_any _ h w' (HR.out w' hx) hs
  have KTT : Hid (∀ w', Ext P2 w' → _) := fun w' hx => truthx_any _ h w' (HR.out w' hx) hs A2 c2 rl (HPR.out w' hx) hK14
  have KFA : Hid (∀ w', Ext P2 w' → _) := fun w' hx => false_any _ h w' (HR.out w' hx) hs A2 c2 rl (HPR.out w' hx) hK14
  have KTS : Hid (∀ A5 c5 w', Ext P2 w' → Prs w' A5 L → _) := fun A5 c5 w' hx i5 => truthx_any _ h w' (HR.out w' hx) hs A5 c5 L i5 hL14
  have HT2 := HS.out.ttS
  rw [hL] at HT2
  rw [HS.out.shE, hL, HLR.out] at KSH
  rw [HS.out.fewV, HS.out.fewE] at KFE
  rw [HS.out.truL, HS.out.fewE] at KTR
  rw [HS.out.claE] at KCL
  rw [HS.out.ttR.1, HS.out.ttR.2, hR] at KTT
  rw [HS.out.faR.1, HS.out.faR.2, hR] at KFA
  rw [HT2.1, HT2.2, HLR.out] at KTS
  obtain ⟨⟨pa, pb⟩, hp⟩ : ∃ p, claV h = p := ⟨_, rfl⟩
  rw [hp] at KCL
  unfold claRes at KCL
  unfold hval at KSH KFE KTR KCL KTT KFA KTS KB
  unfold rval at KB
  simp only [List.length_nil] at KFE KFA
  rw [HN.out, hme] at KSH KFE KTR KCL KTT KFA KTS KB
  rw [hme] at FH
  rw [hR] at ⊢
  clear hp HT2 hme hL hR hK14 hL14 hs hmo hpk hmz
  obtain ⟨c0, c1, c2'⟩ := FH.out P2 (Ext.refl _)
  go_wp2_with fail
  refine KSH.out.mono ?_
  rintro e w3 ⟨A5, k5, rfl, hx3, o5⟩
  clear KSH c0 c1 c2'
  have i5 : Prs w3 A5 L := Rd.of_own o5
  clear o5
  obtain ⟨c0, c1, c2'⟩ := FH.out w3 hx3
  go_wp2_with fail
  refine (KFE.out w3 hx3).mono ?_
  rintro e w4 ⟨A7, k7, rfl, hx4, -⟩
  clear KFE c0 c1 c2'
  have hx4' := hx3.trans hx4
  obtain ⟨c0, c1, c2'⟩ := FH.out w4 hx4'
  go_wp2_with fail
  refine (KTR.out w4 hx4').mono ?_
  rintro e w5 ⟨A9, k9, rfl, hx5, -⟩
  clear KTR c0 c1 c2'
  have hx5' := hx4'.trans hx5
  obtain ⟨c0, c1, c2'⟩ := FH.out w5 hx5'
  go_wp2_with fail
  refine (KCL.out w5 hx5').mono ?_
  rintro e w6 ⟨rfl, hx6⟩
  clear KCL c0 c1 c2'
  go_upto_region 6 with fail
  obtain ⟨P6, hP6⟩ : ∃ P, w6.alloc (.cells #[.int .i64 pa, .int .i64 pb] 36) = P := ⟨_, rfl⟩
  have xp6 : Ext w6 P6 := by rw [← hP6]; exact Ext.alloc (Ext.refl _) _
  try rw [hP6]
  clear hP6
  have hx6' := hx5'.trans (hx6.trans xp6)
  obtain ⟨c0, c1, c2'⟩ := FH.out P6 hx6'
  go_wp2_with fail
  refine (KTT.out P6 hx6').mono ?_
  rintro e w7 ⟨rfl, hx7⟩
  clear KTT c0 c1 c2'
  have hx7' := hx6'.trans hx7
  obtain ⟨c0, c1, c2'⟩ := FH.out w7 hx7'
  go_wp2_with fail
  refine (KFA.out w7 hx7').mono ?_
  rintro e w8 ⟨A15, k15, rfl, hx8, -⟩
  clear KFA c0 c1 c2'
  have hx8' := hx7'.trans hx8
  have i5 := ((((i5.ext hx4).ext hx5).ext (hx6.trans xp6)).ext hx7).ext hx8
  clear hx3 hx4 hx5 hx6 xp6 hx7 hx8 hx4' hx5' hx6' hx7'
  have hRb : ((R : Int) != (R : Int)) = false := by simp
  have hNb : ((N : Int) != (N : Int)) = false := by simp
  obtain ⟨c0, c1, c2'⟩ := FH.out w8 hx8'
  go_wp2_with fail
  refine (KTS.out A5 k5 w8 hx8' i5).mono ?_
  rintro e w9 ⟨rfl, hx9⟩
  clear KTS c0 c1 c2'
  have hx9' := hx8'.trans hx9
  have HI5 : Hid (∀ w', Ext w9 w' → Prs w' A5 L) := fun w' hx => (i5.ext hx9).ext hx
  clear hx8' hx9 i5 hRb hNb
  obtain ⟨c0, c1, c2'⟩ := FH.out w9 hx9'
  go_wp2_with fail
  clear c0 c1 c2'
  go_loopw [130] (fun i wr => ∃ k : Nat, i = .int .i64 (k : Int) ∧ k ≤ N ∧ Ext w9 wr) (fun i _ => N - (intOf i).toNat)
  case atStart => exact ⟨0, rfl, Nat.zero_le _, Ext.refl _⟩
  case round =>
    obtain ⟨k, rfl, hk, hx⟩ := hrel
    by_cases hlt : k < N
    · have hlt' : (k : Int) < (N : Int) := by omega
      have hx2r := hx9'.trans hx
      obtain ⟨x, hxg⟩ := get_of_lt h.ws k (by rw [HN.out]; exact hlt)
      have hxm := List.mem_of_getElem? hxg
      have hwm := HK.out.wm x hxm
      have hms := HK.out.ms x hxm
      obtain ⟨q, hq⟩ : ∃ q : Nat, x.mo = q := ⟨x.mo.toNat, by omega⟩
      have hqN : q < R := by have := HME.out; omega
      obtain ⟨r, hrg⟩ := get_of_lt L q (by rw [HLR.out]; exact hqN)
      have hrs : Rsm r := HS.out.sm.2 r (by rw [HL.out]; exact List.mem_of_getElem? hrg)
      obtain ⟨hh1', hh2'⟩ := HS.out.hold x hxm
      rw [HL.out, show rtAt L x.mo = r from by unfold rtAt; rw [hq, Int.toNat_natCast, List.getD_eq_getElem?_getD, hrg]; rfl] at hh1' hh2'
      have KI : Hid (∀ w', _) := fun w' => is_any x r w' hms hrs hh1' hh2'
      unfold Wg.val rval at KI
      rw [hq] at KI
      obtain ⟨Ah2, ch2, ehv, hrw2, -⟩ := HR.out wr hx2r
      obtain rfl : Ah = Ah2 := by unfold hval at ehv; simp at ehv; exact ehv.1
      obtain ⟨b, off, hAA, e0, e1, e2, e3, e4⟩ := Wgs.at_ hrw2 hxg
      obtain ⟨b2, off2, hAA2, f0, f1⟩ := prs_get (HI5.out wr hx) hrg
      subst hAA
      subst hAA2
      have hqN' : (q : Int) < (R : Int) := by omega
      rw [hq] at e0
      clear ehv hrw2 hh1' hh2' hrs hxm hwm hms hq hxg hrg
      go_upto_region 16 with fail
      obtain ⟨W6, hW6⟩ : ∃ W6, wr.alloc (.cells #[.int .i64 (q : Int), .int .i64 x.sl, .int .i64 x.sh, .int .i64 x.ml, .int .i64 x.mh] 55) = W6 := ⟨_, rfl⟩
      have hx6 : Ext wr W6 := by rw [← hW6]; exact (Ext.refl _).alloc _
      have bx : W6.heap[wr.heap.size]? = some (.cells #[.int .i64 (q : Int), .int .i64 x.sl, .int .i64 x.sh, .int .i64 x.ml, .int .i64 x.mh] 55 (0, 0)) := by rw [← hW6]; exact heap_alloc_new wr _
      try rw [hW6]
      have f0' := hx6.cell f0
      have f1' := hx6.cell f1
      clear hW6 e0 e1 e2 e3 e4 f0 f1
      have FX : Hid (∀ w', Ext W6 w' → (w'.cell? ⟨wr.heap.size, 0, none⟩ = some (.int .i64 (q : Int)) ∧ w'.cell? ⟨wr.heap.size, 1, none⟩ = some (.int .i64 x.sl) ∧ w'.cell? ⟨wr.heap.size, 2, none⟩ = some (.int .i64 x.sh) ∧ w'.cell? ⟨wr.heap.size, 3, none⟩ = some (.int .i64 x.ml) ∧ w'.cell? ⟨wr.heap.size, 4, none⟩ = some (.int .i64 x.mh)) ∧ w'.cell? ⟨b2, off2 + q * 2, none⟩ = some (.int .i64 r.1) ∧ w'.cell? ⟨b2, off2 + q * 2 + 1, none⟩ = some (.int .i64 r.2)) := fun w' hw =>
        ⟨⟨hw.cell (by rw [cell_of_row W6 _ 0 _ _ _ bx]; rfl), hw.cell (by rw [cell_of_row W6 _ 1 _ _ _ bx]; rfl), hw.cell (by rw [cell_of_row W6 _ 2 _ _ _ bx]; rfl), hw.cell (by rw [cell_of_row W6 _ 3 _ _ _ bx]; rfl), hw.cell (by rw [cell_of_row W6 _ 4 _ _ _ bx]; rfl)⟩, hw.cell f0', hw.cell f1'⟩
      clear bx f0' f1'
      refine wp_region_shut Ext (fun w' => Ext W6 w') (fun
        | 6 => some (fun v _ => v = .bool true)
        | _ => none) (by kernel_rfl) (by kernel_rfl) (fun _ _ h k => h.trans k) ?hTa (Ext.drew (Ext.refl W6)) ?_
      case hTa =>
        intro i R hR
        match i, hR with
        | 6, hR => cases hR; exact fun _ _ _ h _ => h
      refine wM_val ?ua0 rfl rfl Ext.refl (fun w' hD => ?ha0) (fun pha0 => ?na0)
      case ha0 =>
        obtain ⟨⟨e0, e1, e2, e3, e4⟩, f0, f1⟩ := FX.out w' hD.1
        go_simp; rfl
      simp only [Act.put, List.setIfInBounds_toArray, List.set_cons_succ, List.set_cons_zero, Nat.reduceAdd]
      refine wM_val ?ua1 rfl rfl Ext.refl (fun w' hD => ?ha1) (fun pha1 => ?na1)
      case ha1 =>
        obtain ⟨⟨e0, e1, e2, e3, e4⟩, f0, f1⟩ := FX.out w' hD.1
        go_simp; rfl
      simp only [Act.put, List.setIfInBounds_toArray, List.set_cons_succ, List.set_cons_zero, Nat.reduceAdd]
      refine wM_val ?ua2 rfl rfl Ext.refl (fun w' hD => ?ha2) (fun pha2 => ?na2)
      case ha2 =>
        obtain ⟨⟨e0, e1, e2, e3, e4⟩, f0, f1⟩ := FX.out w' hD.1
        go_simp; rfl
      simp only [Act.put, List.setIfInBounds_toArray, List.set_cons_succ, List.set_cons_zero, Nat.reduceAdd]
      refine wM_val ?ua3 rfl rfl Ext.refl (fun w' hD => ?ha3) (fun pha3 => ?na3)
      case ha3 =>
        obtain ⟨⟨e0, e1, e2, e3, e4⟩, f0, f1⟩ := FX.out w' hD.1
        go_simp; rfl
      simp only [Act.put, List.setIfInBounds_toArray, List.set_cons_succ, List.set_cons_zero, Nat.reduceAdd]
      refine wM_val ?ua4 rfl rfl Ext.refl (fun w' hD => ?ha4) (fun pha4 => ?na4)
      case ha4 =>
        obtain ⟨⟨e0, e1, e2, e3, e4⟩, f0, f1⟩ := FX.out w' hD.1
        go_simp; rfl
      simp only [Act.put, List.setIfInBounds_toArray, List.set_cons_succ, List.set_cons_zero, Nat.reduceAdd]
      refine wM_val ?ua5 rfl rfl Ext.refl (fun w' hD => ?ha5) (fun pha5 => ?na5)
      case ha5 =>
        obtain ⟨⟨e0, e1, e2, e3, e4⟩, f0, f1⟩ := FX.out w' hD.1
        go_simp; rfl
      simp only [Act.put, List.setIfInBounds_toArray, List.set_cons_succ, List.set_cons_zero, Nat.reduceAdd]
      refine wM_op _ rfl rfl (opens_call ?fa6 ?ga6 (fun w' hD => ?ha6) (fun w' hD => ?ca6)) (fun v6 hv6 => ?na6)
      case ha6 => go_simp; constructor <;> rfl
      case ca6 =>
        refine (KI.out w').mono ?_
        rintro e w2 ⟨rfl, hb⟩
        exact ⟨_, rfl, hb, rfl⟩
      obtain ⟨_, -, -, rfl⟩ := hv6
      simp only [Act.put, List.setIfInBounds_toArray, List.set_cons_succ, List.set_cons_zero, Nat.reduceAdd]
      refine wM_val ?ua7 rfl rfl Ext.refl (fun w' hD => ?ha7) (fun pha7 => ?na7)
      case ha7 =>
        obtain ⟨⟨e0, e1, e2, e3, e4⟩, f0, f1⟩ := FX.out w' hD.1
        go_simp; rfl
      simp only [Act.put, List.setIfInBounds_toArray, List.set_cons_succ, List.set_cons_zero, Nat.reduceAdd]
      refine wM_nil ?_
      intro w9 hw9 hF9
      clear hF9
      go_wp2
      go_roundw
      case rel => exact ⟨k + 1, by go_num, by omega, hx.trans (hx6.trans hw9)⟩
      case measure => simp [intOf]; omega
    · have hlt' : ¬ (k : Int) < (N : Int) := by omega
      obtain ⟨wA, rfl⟩ : ∃ X, X = wr := ⟨_, rfl⟩
      have hx3c := hx9'.trans hx
      have HI6 : Hid (∀ w', Ext wA w' → Prs w' A5 L) := fun w' hw => HI5.out w' (hx.trans hw)
      have HP6 : Hid (∀ w', Ext wA w' → Prs w' A2 rl) := fun w' hw => HPR.out w' (hx3c.trans hw)
      clear HI5 HPR hx hx9'
      go_wp2_with fail
      go_loopw [145] (fun i w5 => ∃ m : Nat, i = .int .i64 (m : Int) ∧ m ≤ R ∧ Ext wA w5) (fun i _ => R - (intOf i).toNat)
      case atStart => exact ⟨0, rfl, Nat.zero_le _, Ext.refl _⟩
      case round =>
        obtain ⟨w5, rfl⟩ : ∃ X, X = wr := ⟨_, rfl⟩
        obtain ⟨m, rfl, hm, hxb⟩ := hrel
        by_cases hlm : m < R
        · have hlm' : (m : Int) < (R : Int) := by omega
          obtain ⟨y, hyg⟩ := get_of_lt rl m (by rw [HRL.out]; exact hlm)
          obtain ⟨z, hzg⟩ := get_of_lt L m (by rw [HLR.out]; exact hlm)
          have hys := HS.out.sm.1 y (List.mem_of_getElem? hyg)
          have hzs := HS.out.sm.2 z (by rw [HL.out]; exact List.mem_of_getElem? hzg)
          have hbn := HS.out.bnd (m : Int) (by omega) (by rw [HME.out]; omega)
          rw [HL.out, show rtAt rl (m : Int) = y from by unfold rtAt; rw [Int.toNat_natCast, List.getD_eq_getElem?_getD, hyg]; rfl, show rtAt L (m : Int) = z from by unfold rtAt; rw [Int.toNat_natCast, List.getD_eq_getElem?_getD, hzg]; rfl] at hbn
          have hsmb := bnd_sm (m := (m : Int)) HK.out
          obtain ⟨b1, off1, hAA1, y0, y1⟩ := prs_get (HP6.out _ hxb) hyg
          obtain ⟨b2, off2, hAA2, z0, z1⟩ := prs_get (HI6.out _ hxb) hzg
          subst hAA1
          subst hAA2
          have HY := hid hys
          have HZ := hid hzs
          clear hyg hzg hys hzs
          have KBm := hid (KB.out (m : Int))
          obtain ⟨lo, hlo⟩ : ∃ X, bndL h (m : Int) = X := ⟨_, rfl⟩
          obtain ⟨hi, hhi⟩ : ∃ X, bndU h (m : Int) = X := ⟨_, rfl⟩
          obtain ⟨E, hE⟩ : ∃ X, bndE h (m : Int) = X := ⟨_, rfl⟩
          rw [hlo, hhi, hE] at KBm hbn
          rw [hlo, hhi] at hsmb
          have HB := hid hbn
          have HLO := hid hsmb.1
          have HHI := hid hsmb.2
          clear hlo hhi hE hsmb hbn
          go_upto_region 22 with fail
          obtain ⟨W6, hW6⟩ : ∃ W6, w5.alloc (.cells #[.int .i64 y.1, .int .i64 y.2] 43) = W6 := ⟨_, rfl⟩
          have hx6 : Ext w5 W6 := by rw [← hW6]; exact (Ext.refl _).alloc _
          have by6 : W6.heap[w5.heap.size]? = some (.cells #[.int .i64 y.1, .int .i64 y.2] 43 (0, 0)) := by rw [← hW6]; exact heap_alloc_new w5 _
          try rw [hW6]
          clear hW6 y0 y1
          have hxb6 := hx3c.trans (hxb.trans hx6)
          obtain ⟨c0, c1, c2'⟩ := FH.out W6 hxb6
          go_wp2_with fail
          refine (KBm.out W6 hxb6).mono ?_
          rintro e w7 ⟨rfl, hx7⟩
          clear KBm c0 c1 c2'
          go_upto_region 23 with fail
          obtain ⟨P7, hP7⟩ : ∃ P, (w7.alloc (.cells #[.int .i64 lo.1, .int .i64 lo.2] 43)).alloc (.cells #[.int .i64 hi.1, .int .i64 hi.2] 43) = P := ⟨_, rfl⟩
          have xp7 : Ext w7 P7 := by rw [← hP7]; exact (Ext.refl _).alloc _ |>.alloc _
          have blo : P7.heap[w7.heap.size]? = some (.cells #[.int .i64 lo.1, .int .i64 lo.2] 43 (0, 0)) := by rw [← hP7]; exact (Below.heap_alloc _ _ _ (by simp)).trans (heap_alloc_new w7 _)
          have bhi : P7.heap[w7.heap.size + 1]? = some (.cells #[.int .i64 hi.1, .int .i64 hi.2] 43 (0, 0)) := by
            rw [← hP7]
            have q := heap_alloc_new (w7.alloc (.cells #[.int .i64 lo.1, .int .i64 lo.2] 43)) (.cells #[.int .i64 hi.1, .int .i64 hi.2] 43)
            rw [World.size_alloc] at q
            exact q
          try rw [hP7]
          clear hP7
          have hx67 := hx7.trans xp7
          have hx57 := hx6.trans hx67
          obtain ⟨yy0, yy1, -⟩ := rat_cells by6
          have y0' := hx67.cell yy0
          have y1' := hx67.cell yy1
          have z0' := hx57.cell z0
          have z1' := hx57.cell z1
          obtain ⟨lo0, lo1, -⟩ := rat_cells blo
          obtain ⟨hi0, hi1, -⟩ := rat_cells bhi
          clear z0 z1 yy0 yy1 by6 blo bhi hx6 hx7 xp7 hx67
          rcases HB.out with rfl | ⟨rfl, ⟨ya, yb⟩, za, zb⟩
          · clear HB lo0 lo1 hi0 hi1 y0' y1' z0' z1'
            go_wp2
            go_roundw
            case rel => exact ⟨m + 1, by go_num, by omega, hxb.trans hx57⟩
            case measure => simp [intOf]; omega
          · clear HB
            go_upto_region 26 with fail
            go_region
            go_upto_region 27 with fail
            obtain ⟨P8, hP8⟩ : ∃ P, (P7.alloc (.cells #[.int .i64 y.1, .int .i64 y.2, .int .i64 z.1, .int .i64 z.2] 43)).drew = P := ⟨_, rfl⟩
            have xp8 : Ext P7 P8 := by rw [← hP8]; exact Ext.drew ((Ext.refl _).alloc _)
            have b8 : P8.heap[P7.heap.size]? = some (.cells #[.int .i64 y.1, .int .i64 y.2, .int .i64 z.1, .int .i64 z.2] 43 (0, 0)) := by rw [← hP8]; exact heap_alloc_new P7 _
            try rw [hP8]
            clear hP8 y0' y1' z0' z1'
            have hx58 := hx57.trans xp8
            have HC : Hid (∀ j : Nat, j < 2 → ∃ t : Rt, P8.cell? ⟨P7.heap.size, j * 2, none⟩ = some (.int .i64 t.1) ∧ P8.cell? ⟨P7.heap.size, j * 2 + 1, none⟩ = some (.int .i64 t.2) ∧ Rsm t ∧ BetR lo hi t) := fun j hj => by
              have hc := fun i u hu => blk_cells (xs := [.int .i64 y.1, .int .i64 y.2, .int .i64 z.1, .int .i64 z.2]) b8 i u hu
              match j, hj with
              | 0, _ => exact ⟨y, hc 0 _ rfl, hc 1 _ rfl, HY.out, ya, yb⟩
              | 1, _ => exact ⟨z, hc 2 _ rfl, hc 3 _ rfl, HZ.out, za, zb⟩
            have l0' := xp8.cell lo0
            have l1' := xp8.cell lo1
            have i0' := xp8.cell hi0
            have i1' := xp8.cell hi1
            clear b8 lo0 lo1 hi0 hi1 ya yb za zb xp8
            go_loopw [168] (fun i w' => ∃ j : Nat, i = .int .i64 (j : Int) ∧ j ≤ 2 ∧ Ext P8 w') (fun i _ => 2 - (intOf i).toNat)
            case atStart => exact ⟨0, rfl, Nat.zero_le _, Ext.refl _⟩
            case round =>
              obtain ⟨j, rfl, hj, hxj⟩ := hrel
              by_cases hlj : j < 2
              · have hlj' : (j : Int) < 2 := by omega
                obtain ⟨t, t0, t1, ts, ta, tb⟩ := HC.out j hlj
                have p1 := mul_small HLO.out.1 ts.2
                have p2 := mul_small ts.1 HLO.out.2
                have p3 := mul_small HHI.out.1 ts.2
                have p4 := mul_small ts.1 HHI.out.2
                have H1 : IntKind.i64.wrap (lo.1 * t.2) = lo.1 * t.2 := IntWalk.i64_in _ ⟨by omega, by omega⟩
                have H2 : IntKind.i64.wrap (t.1 * lo.2) = t.1 * lo.2 := IntWalk.i64_in _ ⟨by omega, by omega⟩
                have H3 : IntKind.i64.wrap (hi.1 * t.2) = hi.1 * t.2 := IntWalk.i64_in _ ⟨by omega, by omega⟩
                have H4 : IntKind.i64.wrap (t.1 * hi.2) = t.1 * hi.2 := IntWalk.i64_in _ ⟨by omega, by omega⟩
                have g1 : ¬ (lo.1 * t.2 > t.1 * lo.2) := by omega
                have g2 : ¬ (hi.1 * t.2 < t.1 * hi.2) := by omega
                have t0 := hxj.cell t0
                have t1 := hxj.cell t1
                clear p1 p2 p3 p4 ta tb ts
                go_upto_region 29 with fail
                obtain ⟨W10, hW10⟩ : ∃ W, wr.alloc (.cells #[.int .i64 t.1, .int .i64 t.2] 43) = W := ⟨_, rfl⟩
                have hxw : Ext wr W10 := by rw [← hW10]; exact (Ext.refl _).alloc _
                have bt : W10.heap[wr.heap.size]? = some (.cells #[.int .i64 t.1, .int .i64 t.2] 43 (0, 0)) := by rw [← hW10]; exact heap_alloc_new wr _
                try rw [hW10]
                clear hW10 t0 t1
                obtain ⟨t0, t1, -⟩ := rat_cells bt
                have hx8w := hxj.trans hxw
                have l0 := hx8w.cell l0'
                have l1 := hx8w.cell l1'
                have i0 := hx8w.cell i0'
                have i1 := hx8w.cell i1'
                clear bt
                go_wp2
                go_roundw
                case rel => exact ⟨j + 1, by go_num, by omega, hx8w⟩
                case measure => simp [intOf]; omega
              · have hlj' : ¬ (j : Int) < 2 := by omega
                go_wp2
                go_roundw
                case rel => exact ⟨m + 1, by go_num, by omega, hxb.trans (hx58.trans hxj)⟩
                case measure => simp [intOf]; omega
        · have hlm' : ¬ (m : Int) < (R : Int) := by omega
          go_wp2_with fail
          refine (awake_any _).mono ?_
          rintro e w9b ⟨rfl, hxz⟩
          go_wp2
          go_ret
          exact ⟨rfl, hx2.trans (hx3c.trans (hxb.trans hxz))⟩
end Go.Proofs.Ytjnobdcbbboeeaa
