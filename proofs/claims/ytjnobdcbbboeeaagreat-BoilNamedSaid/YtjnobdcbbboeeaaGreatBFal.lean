/- The walks of boil.Truth and boil.False. Printed by my gen_bfal.py. -/
import Derived.Test.YtjnobdcbbboeeaaGreatBTru2
namespace Go.Proofs.YtjnobdcbbboeeaaGreat
open Go Go.RowKit Go.Shelf
set_option linter.unusedVariables false
set_option linter.unusedSimpArgs false

theorem ratE_ok {h : Hs} {l : List Rt} (e : ratE h l = 0) : HsOK h ∧ (l.length : Int) = h.mo ∧ ∀ q ∈ l, Rpos q ∧ Rsm q := by
  unfold ratE at e
  by_cases h0 : checkH h = 0
  · rw [if_neg (by simp [h0])] at e
    by_cases h1 : (l.length : Int) = h.mo
    · rw [if_neg (by simp [h1])] at e
      by_cases h2 : l.all rtOK = false
      · rw [if_pos h2] at e; cases e
      · refine ⟨checkH_ok h0, h1, fun q hq => ?_⟩
        have h3 : l.all rtOK = true := by simpa using h2
        have h4 := List.all_eq_true.1 h3 q hq
        unfold rtOK at h4
        rw [Bool.and_eq_true, inB_iff, inB_iff] at h4
        unfold Rpos Rsm
        omega
    · rw [if_pos h1] at e; cases e
  · rw [if_pos h0] at e; exact absurd e h0
theorem ratE_of {h : Hs} {l : List Rt} (k : HsOK h) (hl : (l.length : Int) = h.mo) (hr : ∀ q ∈ l, rtOK q = true) : ratE h l = 0 := by
  unfold ratE
  rw [checkH_of k, if_neg (by simp), if_neg (by simp [hl]), if_neg (by rw [List.all_eq_true.2 hr]; simp)]
def ttE (h : Hs) (l : List Rt) : Int := ratE h l
def ttV (h : Hs) (l : List Rt) : Bool := if ratE h l = 0 then truthH h l else false
theorem lo_hi_small {h : Hs} (k : HsOK h) {x : Wg} (hx : x ∈ h.ws) : Rsm x.lo ∧ Rsm x.hi := by
  have m1 := k.ms x hx
  have p := lowR_pos (n := x.ml) (d := x.sh) (by omega) (by omega)
  have l := lowR_le (n := x.ml) (d := x.sh) (by omega) (by omega)
  have p2 := lowR_pos (n := x.mh) (d := x.sl) (by omega) (by omega)
  have l2 := lowR_le (n := x.mh) (d := x.sl) (by omega) (by omega)
  unfold Wg.lo Wg.hi Rsm
  unfold Rpos at p p2
  omega
def falB (h : Hs) (l : List Rt) (i : Nat) : Bool := !holdW (wgAt h i) (rtAt l (wgAt h i).mo)
def falE (h : Hs) (l : List Rt) : Int := if ratE h l ≠ 0 then ratE h l else if truthH h l = false then 8 else 0
def falV (h : Hs) (l : List Rt) : List Int := if falE h l = 0 then someW (falB h l) h.ws.length else []
def falK (h : Hs) (l : List Rt) (k : Nat) : List Int := someW (falB h l) k
theorem falK_next (h : Hs) (l : List Rt) (k : Nat) : falK h l (k + 1) = falK h l k ++ if falB h l k = true then [(k : Int)] else [] := someW_snoc _ _
set_option maxRecDepth 100000 in
set_option maxHeartbeats 8000000 in
theorem false_any (v : Value) (h : Hs) (w : World) (hr : HsR w v h) (hs : h.sized) (Ar : Option Addr) (cr : Nat) (l : List Rt) (hA : Prs w Ar l) (hl : l.length ≤ 1000000) :
    Calls Tryz.prog 8 #[v, .slice Ar l.length cr] w fun e w' => ∃ A c, e = .returned (.tuple #[.slice A (falV h l).length c, .int .i64 (falE h l)]) ∧ Ext w w' ∧ Ints w' A (falV h l) := by
  obtain ⟨A, c, rfl, hrw, hcap⟩ := hr
  obtain ⟨w1, hw1⟩ : ∃ w1, w.alloc (.cells #[.int .i64 h.mo, .int .i64 h.pk, .slice A h.ws.length c] 25) = w1 := ⟨_, rfl⟩
  have hx1 : Ext w w1 := by rw [← hw1]; exact Ext.alloc (Ext.refl w) _
  have b1 : w1.heap[w.heap.size]? = some (.cells #[.int .i64 h.mo, .int .i64 h.pk, .slice A h.ws.length c] 25 (0, 0)) := by rw [← hw1]; exact heap_alloc_new w _
  have FH : Hid (∀ w', Ext w1 w' → w'.cell? ⟨w.heap.size, 0, none⟩ = some (.int .i64 h.mo) ∧ w'.cell? ⟨w.heap.size, 1, none⟩ = some (.int .i64 h.pk) ∧ w'.cell? ⟨w.heap.size, 2, none⟩ = some (.slice A h.ws.length c)) := fun w' hx =>
    ⟨hx.cell (by rw [cell_of_row w1 w.heap.size 0 _ _ _ b1]; rfl), hx.cell (by rw [cell_of_row w1 w.heap.size 1 _ _ _ b1]; rfl), hx.cell (by rw [cell_of_row w1 w.heap.size 2 _ _ _ b1]; rfl)⟩
  have HR : Hid (∀ w', Ext w1 w' → HsR w' (hval h A c) h) := fun w' hx => ⟨A, c, rfl, Rows.ext hrw (hx1.trans hx), hcap⟩
  have HA : Hid (∀ w', Ext w1 w' → Prs w' Ar l) := fun w' hx => Rows.ext hA (hx1.trans hx)
  have KR := hid (ratios_any (hval h A c) h w1 (HR.out w1 (Ext.refl _)) hs Ar cr l (HA.out _ (Ext.refl _)) hl)
  have KT : Hid (ratE h l = 0 → ∀ w', Ext w1 w' → Calls Tryz.prog 32 #[hval h A c, .slice Ar l.length cr] w' fun e w2 => e = .returned (.bool (truthH h l)) ∧ Ext w' w2) := fun e w' hx => by
    obtain ⟨k, -, hrr⟩ := ratE_ok e
    have hpk := k.pk
    have hmo := k.mo
    exact truthm_any (hval h A c) h w' (HR.out w' hx) (by omega) Ar cr l (HA.out w' hx) hl (fun q hq => (hrr q hq).2)
  obtain ⟨T, hT⟩ : ∃ T, ratE h l = T := ⟨_, rfl⟩
  obtain ⟨B, hB⟩ : ∃ B, truthH h l = B := ⟨_, rfl⟩
  have HT := hid hT
  have HB := hid hB
  rw [hT] at KR KT
  rw [hB] at KT
  unfold hval at KR KT
  have HW1 := hid hw1
  obtain ⟨N, hN⟩ : ∃ N : Nat, l.length = N := ⟨_, rfl⟩
  have HN := hid hN
  rw [hN] at KR KT hl ⊢
  have HE : Hid (falE h l = if T ≠ 0 then T else if B = false then 8 else 0) := by unfold Hid falE; rw [hT, hB]
  have HV : Hid (falV h l = if falE h l = 0 then falK h l h.ws.length else []) := rfl
  obtain ⟨E, hE⟩ : ∃ E, falE h l = E := ⟨_, rfl⟩
  obtain ⟨V, hV⟩ : ∃ V, falV h l = V := ⟨_, rfl⟩
  rw [hE] at HE
  rw [hE, hV] at HV
  rw [hE, hV]
  clear hw1 hT hB hrw b1 hs hA hN hV hE
  unfold hval
  go_enter Tryz.func8, Tryz.ntmps8
  go_upto_region 1 with fail
  rw [HW1.out]
  clear HW1
  obtain ⟨c0, c1, c2⟩ := FH.out w1 (Ext.refl _)
  go_wp2_with fail
  refine KR.out.mono ?_
  rintro e w2 ⟨rfl, h2⟩
  clear KR c0 c1 c2
  by_cases h0 : T = 0
  case neg =>
    have h0b : (T != 0) = true := by simpa using h0
    have HL : E = T := by rw [HE.out, if_pos h0]
    have HV2 := HV.out
    rw [HL, if_neg h0] at HV2
    subst HL
    subst HV2
    clear HE HV
    go_wp2
    go_ret2
    exact ⟨none, 0, rfl, hx1.trans h2, Rd.nil _ _⟩
  subst h0
  have KT2 := hid (KT.out rfl w2 h2)
  clear KT
  obtain ⟨c0, c1, c2⟩ := FH.out w2 h2
  go_wp2_with fail
  refine KT2.out.mono ?_
  rintro e w3 ⟨rfl, h3⟩
  clear KT2 c0 c1 c2
  have h13 := h2.trans h3
  cases hbt : B with
  | false =>
    have HL : E = 8 := by rw [HE.out, hbt]; rfl
    have HV2 := HV.out
    rw [HL, if_neg (by decide)] at HV2
    subst HL
    subst HV2
    clear HE HV
    try rw [hbt]
    go_wp2
    go_ret2
    exact ⟨none, 0, rfl, hx1.trans h13, Rd.nil _ _⟩
  | true =>
    have HL : E = 0 := by rw [HE.out, hbt]; rfl
    have HV2 := HV.out
    rw [HL, if_pos rfl] at HV2
    subst HL
    have HVK := hid HV2
    clear HE HV HV2
    obtain ⟨k0, hlm, hrr⟩ := ratE_ok HT.out
    have HK := hid k0
    have HLM := hid hlm
    have HRR0 := hid hrr
    have hlen := k0.len
    clear k0 hlm hrr
    obtain ⟨M, hM⟩ : ∃ M : Nat, h.ws.length = M := ⟨_, rfl⟩
    have HM := hid hM
    rw [hM] at FH hlen ⊢
    clear hM
    obtain ⟨c0, c1, c2⟩ := FH.out w3 h13
    try rw [hbt]
    go_wp2_with fail
    clear c0 c1 c2
    go_loopw [7, 24] (fun s7 i wr => ∃ (k n : Nat) (A' : Option Addr) (c' : Nat), i = .int .i64 (k : Int) ∧ k ≤ M ∧ Hid ((falK h l k).length = n) ∧ n ≤ k ∧ s7 = .slice A' n c' ∧ wr.ownsRow w3.heap.size 3 1 (.slice A' n c') n ((falK h l k).map (.int .i64)) ∧ Ext w3 wr) (fun _ i _ => M - (intOf i).toNat)
    case atStart => exact ⟨0, 0, none, 0, rfl, Nat.zero_le _, rfl, Nat.le_refl _, rfl, own_nil _ _ _ _, Ext.refl _⟩
    case round =>
      obtain ⟨k, n, A', c', rfl, hk, HKL, hnk, rfl, ho, hx⟩ := hrel
      by_cases hlt : k < M
      · have hlt' : (k : Int) < (M : Int) := by omega
        have hx1r := h13.trans hx
        obtain ⟨x, hxg⟩ := get_of_lt h.ws k (by rw [HM.out]; exact hlt)
        have hxm := List.mem_of_getElem? hxg
        have hwm := HK.out.wm x hxm
        have hms := HK.out.ms x hxm
        have hwa : wgAt h k = x := by unfold wgAt; rw [List.getD_eq_getElem?_getD, hxg]; rfl
        obtain ⟨q, hq⟩ : ∃ q : Nat, x.mo = q := ⟨x.mo.toNat, by omega⟩
        have hqN : q < N := by have := HLM.out; have := HN.out; omega
        obtain ⟨r, hrg⟩ := get_of_lt l q (by rw [HN.out]; exact hqN)
        have HRR := hid (HRR0.out r (List.mem_of_getElem? hrg)).2
        have HST : Hid (falB h l k = (abv x.lo r || abv r x.hi)) := by
          unfold Hid falB holdW
          rw [hwa, show rtAt l x.mo = r from by unfold rtAt; rw [hq, Int.toNat_natCast, List.getD_eq_getElem?_getD, hrg]; rfl, Bool.not_not]
        obtain ⟨lsm, llen⟩ := lo_hi_small HK.out hxm
        have HLO := hid lsm
        have HHI := hid llen
        have KLE : Hid (∀ w', _) := fun w' => least_any x w' (by omega)
        have KMO : Hid (∀ w', _) := fun w' => most_any x w' (by omega)
        obtain ⟨Ah2, ch2, ehv, hrw2, -⟩ := HR.out wr hx1r
        obtain rfl : A = Ah2 := by unfold hval at ehv; simp at ehv; exact ehv.1
        obtain ⟨b, off, hAA, e0, e1, e2, e3, e4⟩ := Wgs.at_ hrw2 hxg
        obtain ⟨b2, off2, hAA2, f0, f1⟩ := prs_get (HA.out wr hx1r) hrg
        subst hAA
        subst hAA2
        have hqN' : (q : Int) < (N : Int) := by omega
        rw [hq] at e0
        go_upto_region 10 with fail
        obtain ⟨W6, hW6⟩ : ∃ W6, wr.alloc (.cells #[.int .i64 (q : Int), .int .i64 x.sl, .int .i64 x.sh, .int .i64 x.ml, .int .i64 x.mh] 67) = W6 := ⟨_, rfl⟩
        have hx6 : Ext wr W6 := by rw [← hW6]; exact (Ext.refl _).alloc _
        have bx6 : W6.heap[wr.heap.size]? = some (.cells #[.int .i64 (q : Int), .int .i64 x.sl, .int .i64 x.sh, .int .i64 x.ml, .int .i64 x.mh] 67 (0, 0)) := by rw [← hW6]; exact heap_alloc_new wr _
        rw [hW6]
        clear hW6 e1 e2 e3 e4 hrw2
        have e0' := cell_of_row W6 wr.heap.size 0 _ _ _ bx6
        have f0' := hx6.cell f0
        have f1' := hx6.cell f1
        clear e0 f0 f1
        go_upto_region 11 with fail
        obtain ⟨W7, hW7⟩ : ∃ W7, W6.alloc (.cells #[.int .i64 r.1, .int .i64 r.2] 63) = W7 := ⟨_, rfl⟩
        have hx67 : Ext W6 W7 := by rw [← hW7]; exact (Ext.refl _).alloc _
        have hx7 := hx6.trans hx67
        have bx : W7.heap[wr.heap.size]? = some (.cells #[.int .i64 (q : Int), .int .i64 x.sl, .int .i64 x.sh, .int .i64 x.ml, .int .i64 x.mh] 67 (0, 0)) := (Below.block hx67 _ (Array.getElem?_eq_some_iff.1 bx6).1).trans bx6
        have br : W7.heap[W6.heap.size]? = some (.cells #[.int .i64 r.1, .int .i64 r.2] 63 (0, 0)) := by rw [← hW7]; exact heap_alloc_new W6 _
        try rw [hW7]
        clear hW7 e0' f0' f1' bx6
        have FX : Hid (∀ w', Ext W7 w' → (w'.cell? ⟨wr.heap.size, 0, none⟩ = some (.int .i64 (q : Int)) ∧ w'.cell? ⟨wr.heap.size, 1, none⟩ = some (.int .i64 x.sl) ∧ w'.cell? ⟨wr.heap.size, 2, none⟩ = some (.int .i64 x.sh) ∧ w'.cell? ⟨wr.heap.size, 3, none⟩ = some (.int .i64 x.ml) ∧ w'.cell? ⟨wr.heap.size, 4, none⟩ = some (.int .i64 x.mh)) ∧ w'.cell? ⟨W6.heap.size, 0, none⟩ = some (.int .i64 r.1) ∧ w'.cell? ⟨W6.heap.size, 1, none⟩ = some (.int .i64 r.2)) := fun w' hw =>
          ⟨⟨hw.cell (by rw [cell_of_row W7 _ 0 _ _ _ bx]; rfl), hw.cell (by rw [cell_of_row W7 _ 1 _ _ _ bx]; rfl), hw.cell (by rw [cell_of_row W7 _ 2 _ _ _ bx]; rfl), hw.cell (by rw [cell_of_row W7 _ 3 _ _ _ bx]; rfl), hw.cell (by rw [cell_of_row W7 _ 4 _ _ _ bx]; rfl)⟩, hw.cell (by rw [cell_of_row W7 _ 0 _ _ _ br]; rfl), hw.cell (by rw [cell_of_row W7 _ 1 _ _ _ br]; rfl)⟩
        unfold Wg.val rval at KLE KMO
        rw [hq] at KLE KMO
        clear bx br hxg hrg hwa hxm hwm hms hq lsm llen
        cases hb1 : abv x.lo r with
        | true =>
          have HB1 := hid hb1
          have HH : Hid (falB h l k = true) := by unfold Hid; rw [HST.out, hb1]; rfl
          clear hb1
          refine wp_region_shut Ext (fun w' => Ext W7 w') (fun
            | 1 => some (fun v _ => v = rval x.lo)
            | 3 => some (fun v _ => v = .bool (abv x.lo r))
            | _ => none) (by kernel_rfl) (by kernel_rfl) (fun _ _ h k => h.trans k) ?hTa (Ext.drew (Ext.refl W7)) ?_
          case hTa =>
            intro i R hR
            match i, hR with
            | 1, hR => cases hR; exact fun _ _ _ h _ => h
            | 3, hR => cases hR; exact fun _ _ _ h _ => h
          refine wM_val ?ua0 rfl rfl Ext.refl (fun w' hD => ?ha0) (fun pha0 => ?na0)
          case ha0 =>
            obtain ⟨⟨e0, e1, e2, e3, e4⟩, f0, f1⟩ := FX.out w' hD.1
            go_simp; rfl
          simp only [Act.put, List.setIfInBounds_toArray, List.set_cons_succ, List.set_cons_zero, Nat.reduceAdd]
          refine wM_op _ rfl rfl (opens_call ?fa1 ?ga1 (fun w' hD => ?ha1) (fun w' hD => ?ca1)) (fun v1 hv1 => ?na1)
          case ha1 => go_simp; constructor <;> rfl
          case ca1 =>
            refine (KLE.out w').mono ?_
            rintro e w2 ⟨rfl, hb⟩
            exact ⟨_, rfl, hb, rfl⟩
          obtain ⟨_, -, -, rfl⟩ := hv1
          simp only [Act.put, List.setIfInBounds_toArray, List.set_cons_succ, List.set_cons_zero, Nat.reduceAdd]
          refine wM_val ?ua2 rfl rfl Ext.refl (fun w' hD => ?ha2) (fun pha2 => ?na2)
          case ha2 =>
            obtain ⟨⟨e0, e1, e2, e3, e4⟩, f0, f1⟩ := FX.out w' hD.1
            go_simp; rfl
          simp only [Act.put, List.setIfInBounds_toArray, List.set_cons_succ, List.set_cons_zero, Nat.reduceAdd]
          refine wM_op _ rfl rfl (opens_call ?fa3 ?ga3 (fun w' hD => ?ha3) (fun w' hD => ?ca3)) (fun v3 hv3 => ?na3)
          case ha3 => go_simp; constructor <;> rfl
          case ca3 =>
            refine (above_any x.lo r w' HLO.out HRR.out).mono ?_
            rintro e w2 ⟨rfl, hb⟩
            exact ⟨_, rfl, hb, rfl⟩
          obtain ⟨_, -, -, rfl⟩ := hv3
          simp only [Act.put, List.setIfInBounds_toArray, List.set_cons_succ, List.set_cons_zero, Nat.reduceAdd]
          try rw [HB1.out]
          refine wM_val ?ua4 rfl rfl Ext.refl (fun w' hD => ?ha4) (fun pha4 => ?na4)
          case ha4 =>
            obtain ⟨⟨e0, e1, e2, e3, e4⟩, f0, f1⟩ := FX.out w' hD.1
            go_simp; rfl
          simp only [Act.put, List.setIfInBounds_toArray, List.set_cons_succ, List.set_cons_zero, Nat.reduceAdd]
          refine wM_skip rfl ?_
          simp only [Act.put, List.setIfInBounds_toArray, List.set_cons_succ, List.set_cons_zero, Nat.reduceAdd]
          refine wM_skip rfl ?_
          simp only [Act.put, List.setIfInBounds_toArray, List.set_cons_succ, List.set_cons_zero, Nat.reduceAdd]
          refine wM_skip rfl ?_
          simp only [Act.put, List.setIfInBounds_toArray, List.set_cons_succ, List.set_cons_zero, Nat.reduceAdd]
          refine wM_skip rfl ?_
          simp only [Act.put, List.setIfInBounds_toArray, List.set_cons_succ, List.set_cons_zero, Nat.reduceAdd]
          refine wM_val ?ua9 rfl rfl Ext.refl (fun w' hD => ?ha9) (fun pha9 => ?na9)
          case ha9 =>
            obtain ⟨⟨e0, e1, e2, e3, e4⟩, f0, f1⟩ := FX.out w' hD.1
            go_simp; rfl
          simp only [Act.put, List.setIfInBounds_toArray, List.set_cons_succ, List.set_cons_zero, Nat.reduceAdd]
          refine wM_nil ?_
          intro w9 hw9 hF9
          clear hF9
          have HNX : Hid (falK h l (k + 1) = falK h l k ++ [(k : Int)]) := by unfold Hid; rw [falK_next, HH.out]; simp
          have hxr9 := hx.trans (hx7.trans hw9)
          have ho9 := own_below ho (hx7.trans hw9)
          have hwz := hxr9.size
          clear HH HB1 HST
          go_wp2_with (at_builtin; refine wpList_append_rd2 _ rfl _ _ 31 rfl elem_int w3.heap.size _ n ((falK h l k).map (.int .i64)) rfl (own_below ho9 (Ext.alloc (Ext.refl _) _)) (some ⟨w9.heap.size, 0, none⟩) 1 1 [.int .i64 (k : Int)] rfl rfl (rd_blk2 (heap_alloc_new w9 _)) (by intro u hu; simp at hu; subst hu; rfl) (by omega) (by simp; omega) ?_; intro A5 c5 w5 own5 bel5 gr5 at5)
          have gr5' : (w9.alloc (.cells #[.int .i64 (k : Int)] 3)).grownBy w5 (Value.slice A' n c').ownBlock := gr5
          have hxN : Ext w3 w5 := Ext.grown (hxr9.alloc (.cells #[.int .i64 (k : Int)] 3)) gr5' (fun j e => by have := (ho.lt j e).1; omega)
          rw [show (falK h l k).map (Value.int .i64) ++ [.int .i64 (k : Int)] = (falK h l (k + 1)).map (.int .i64) from by rw [HNX.out]; simp] at own5
          have HO := hid own5
          clear own5 bel5 gr5 gr5' at5
          go_roundw
          case rel => exact ⟨k + 1, n + 1, A5, c5, by go_num, by omega, by unfold Hid; rw [HNX.out, List.length_append, HKL.out]; rfl, by omega, rfl, HO.out, hxN⟩
          case measure => simp [intOf]; omega
        | false =>
          have HB1 := hid hb1
          cases hb2 : abv r x.hi with
          | true =>
            have HB2 := hid hb2
            have HH : Hid (falB h l k = true) := by unfold Hid; rw [HST.out, hb1, hb2]; rfl
            clear hb1 hb2
            refine wp_region_shut Ext (fun w' => Ext W7 w') (fun
              | 1 => some (fun v _ => v = rval x.lo)
              | 3 => some (fun v _ => v = .bool (abv x.lo r))
              | 7 => some (fun v _ => v = rval x.hi)
              | 8 => some (fun v _ => v = .bool (abv r x.hi))
              | _ => none) (by kernel_rfl) (by kernel_rfl) (fun _ _ h k => h.trans k) ?hTb (Ext.drew (Ext.refl W7)) ?_
            case hTb =>
              intro i R hR
              match i, hR with
              | 1, hR => cases hR; exact fun _ _ _ h _ => h
              | 3, hR => cases hR; exact fun _ _ _ h _ => h
              | 7, hR => cases hR; exact fun _ _ _ h _ => h
              | 8, hR => cases hR; exact fun _ _ _ h _ => h
            refine wM_val ?ub0 rfl rfl Ext.refl (fun w' hD => ?hb0) (fun phb0 => ?nb0)
            case hb0 =>
              obtain ⟨⟨e0, e1, e2, e3, e4⟩, f0, f1⟩ := FX.out w' hD.1
              go_simp; rfl
            simp only [Act.put, List.setIfInBounds_toArray, List.set_cons_succ, List.set_cons_zero, Nat.reduceAdd]
            refine wM_op _ rfl rfl (opens_call ?fb1 ?gb1 (fun w' hD => ?hb1) (fun w' hD => ?cb1)) (fun v1 hv1 => ?nb1)
            case hb1 => go_simp; constructor <;> rfl
            case cb1 =>
              refine (KLE.out w').mono ?_
              rintro e w2 ⟨rfl, hb⟩
              exact ⟨_, rfl, hb, rfl⟩
            obtain ⟨_, -, -, rfl⟩ := hv1
            simp only [Act.put, List.setIfInBounds_toArray, List.set_cons_succ, List.set_cons_zero, Nat.reduceAdd]
            refine wM_val ?ub2 rfl rfl Ext.refl (fun w' hD => ?hb2) (fun phb2 => ?nb2)
            case hb2 =>
              obtain ⟨⟨e0, e1, e2, e3, e4⟩, f0, f1⟩ := FX.out w' hD.1
              go_simp; rfl
            simp only [Act.put, List.setIfInBounds_toArray, List.set_cons_succ, List.set_cons_zero, Nat.reduceAdd]
            refine wM_op _ rfl rfl (opens_call ?fb3 ?gb3 (fun w' hD => ?hb3) (fun w' hD => ?cb3)) (fun v3 hv3 => ?nb3)
            case hb3 => go_simp; constructor <;> rfl
            case cb3 =>
              refine (above_any x.lo r w' HLO.out HRR.out).mono ?_
              rintro e w2 ⟨rfl, hb⟩
              exact ⟨_, rfl, hb, rfl⟩
            obtain ⟨_, -, -, rfl⟩ := hv3
            simp only [Act.put, List.setIfInBounds_toArray, List.set_cons_succ, List.set_cons_zero, Nat.reduceAdd]
            try rw [HB1.out]
            refine wM_val ?ub4 rfl rfl Ext.refl (fun w' hD => ?hb4) (fun phb4 => ?nb4)
            case hb4 =>
              obtain ⟨⟨e0, e1, e2, e3, e4⟩, f0, f1⟩ := FX.out w' hD.1
              go_simp; rfl
            simp only [Act.put, List.setIfInBounds_toArray, List.set_cons_succ, List.set_cons_zero, Nat.reduceAdd]
            refine wM_val ?ub5 rfl rfl Ext.refl (fun w' hD => ?hb5) (fun phb5 => ?nb5)
            case hb5 =>
              obtain ⟨⟨e0, e1, e2, e3, e4⟩, f0, f1⟩ := FX.out w' hD.1
              go_simp; rfl
            simp only [Act.put, List.setIfInBounds_toArray, List.set_cons_succ, List.set_cons_zero, Nat.reduceAdd]
            refine wM_val ?ub6 rfl rfl Ext.refl (fun w' hD => ?hb6) (fun phb6 => ?nb6)
            case hb6 =>
              obtain ⟨⟨e0, e1, e2, e3, e4⟩, f0, f1⟩ := FX.out w' hD.1
              go_simp; rfl
            simp only [Act.put, List.setIfInBounds_toArray, List.set_cons_succ, List.set_cons_zero, Nat.reduceAdd]
            refine wM_op _ rfl rfl (opens_call ?fb7 ?gb7 (fun w' hD => ?hb7) (fun w' hD => ?cb7)) (fun v7 hv7 => ?nb7)
            case hb7 => go_simp; constructor <;> rfl
            case cb7 =>
              refine (KMO.out w').mono ?_
              rintro e w2 ⟨rfl, hb⟩
              exact ⟨_, rfl, hb, rfl⟩
            obtain ⟨_, -, -, rfl⟩ := hv7
            simp only [Act.put, List.setIfInBounds_toArray, List.set_cons_succ, List.set_cons_zero, Nat.reduceAdd]
            refine wM_op _ rfl rfl (opens_call ?fb8 ?gb8 (fun w' hD => ?hb8) (fun w' hD => ?cb8)) (fun v8 hv8 => ?nb8)
            case hb8 => go_simp; constructor <;> rfl
            case cb8 =>
              refine (above_any r x.hi w' HRR.out HHI.out).mono ?_
              rintro e w2 ⟨rfl, hb⟩
              exact ⟨_, rfl, hb, rfl⟩
            obtain ⟨_, -, -, rfl⟩ := hv8
            simp only [Act.put, List.setIfInBounds_toArray, List.set_cons_succ, List.set_cons_zero, Nat.reduceAdd]
            try rw [HB2.out]
            refine wM_val ?ub9 rfl rfl Ext.refl (fun w' hD => ?hb9) (fun phb9 => ?nb9)
            case hb9 =>
              obtain ⟨⟨e0, e1, e2, e3, e4⟩, f0, f1⟩ := FX.out w' hD.1
              go_simp; rfl
            simp only [Act.put, List.setIfInBounds_toArray, List.set_cons_succ, List.set_cons_zero, Nat.reduceAdd]
            refine wM_nil ?_
            intro w9 hw9 hF9
            clear hF9
            have HNX : Hid (falK h l (k + 1) = falK h l k ++ [(k : Int)]) := by unfold Hid; rw [falK_next, HH.out]; simp
            have hxr9 := hx.trans (hx7.trans hw9)
            have ho9 := own_below ho (hx7.trans hw9)
            have hwz := hxr9.size
            clear HH HB1 HST
            go_wp2_with (at_builtin; refine wpList_append_rd2 _ rfl _ _ 31 rfl elem_int w3.heap.size _ n ((falK h l k).map (.int .i64)) rfl (own_below ho9 (Ext.alloc (Ext.refl _) _)) (some ⟨w9.heap.size, 0, none⟩) 1 1 [.int .i64 (k : Int)] rfl rfl (rd_blk2 (heap_alloc_new w9 _)) (by intro u hu; simp at hu; subst hu; rfl) (by omega) (by simp; omega) ?_; intro A5 c5 w5 own5 bel5 gr5 at5)
            have gr5' : (w9.alloc (.cells #[.int .i64 (k : Int)] 3)).grownBy w5 (Value.slice A' n c').ownBlock := gr5
            have hxN : Ext w3 w5 := Ext.grown (hxr9.alloc (.cells #[.int .i64 (k : Int)] 3)) gr5' (fun j e => by have := (ho.lt j e).1; omega)
            rw [show (falK h l k).map (Value.int .i64) ++ [.int .i64 (k : Int)] = (falK h l (k + 1)).map (.int .i64) from by rw [HNX.out]; simp] at own5
            have HO := hid own5
            clear own5 bel5 gr5 gr5' at5
            go_roundw
            case rel => exact ⟨k + 1, n + 1, A5, c5, by go_num, by omega, by unfold Hid; rw [HNX.out, List.length_append, HKL.out]; rfl, by omega, rfl, HO.out, hxN⟩
            case measure => simp [intOf]; omega
          | false =>
            have HB2 := hid hb2
            have HNX : Hid (falK h l (k + 1) = falK h l k) := by unfold Hid; rw [falK_next, HST.out, hb1, hb2]; simp
            clear hb1 hb2 HST
            refine wp_region_shut Ext (fun w' => Ext W7 w') (fun
              | 1 => some (fun v _ => v = rval x.lo)
              | 3 => some (fun v _ => v = .bool (abv x.lo r))
              | 7 => some (fun v _ => v = rval x.hi)
              | 8 => some (fun v _ => v = .bool (abv r x.hi))
              | _ => none) (by kernel_rfl) (by kernel_rfl) (fun _ _ h k => h.trans k) ?hTd (Ext.drew (Ext.refl W7)) ?_
            case hTd =>
              intro i R hR
              match i, hR with
              | 1, hR => cases hR; exact fun _ _ _ h _ => h
              | 3, hR => cases hR; exact fun _ _ _ h _ => h
              | 7, hR => cases hR; exact fun _ _ _ h _ => h
              | 8, hR => cases hR; exact fun _ _ _ h _ => h
            refine wM_val ?ud0 rfl rfl Ext.refl (fun w' hD => ?hd0) (fun phd0 => ?nd0)
            case hd0 =>
              obtain ⟨⟨e0, e1, e2, e3, e4⟩, f0, f1⟩ := FX.out w' hD.1
              go_simp; rfl
            simp only [Act.put, List.setIfInBounds_toArray, List.set_cons_succ, List.set_cons_zero, Nat.reduceAdd]
            refine wM_op _ rfl rfl (opens_call ?fd1 ?gd1 (fun w' hD => ?hd1) (fun w' hD => ?cd1)) (fun v1 hv1 => ?nd1)
            case hd1 => go_simp; constructor <;> rfl
            case cd1 =>
              refine (KLE.out w').mono ?_
              rintro e w2 ⟨rfl, hb⟩
              exact ⟨_, rfl, hb, rfl⟩
            obtain ⟨_, -, -, rfl⟩ := hv1
            simp only [Act.put, List.setIfInBounds_toArray, List.set_cons_succ, List.set_cons_zero, Nat.reduceAdd]
            refine wM_val ?ud2 rfl rfl Ext.refl (fun w' hD => ?hd2) (fun phd2 => ?nd2)
            case hd2 =>
              obtain ⟨⟨e0, e1, e2, e3, e4⟩, f0, f1⟩ := FX.out w' hD.1
              go_simp; rfl
            simp only [Act.put, List.setIfInBounds_toArray, List.set_cons_succ, List.set_cons_zero, Nat.reduceAdd]
            refine wM_op _ rfl rfl (opens_call ?fd3 ?gd3 (fun w' hD => ?hd3) (fun w' hD => ?cd3)) (fun v3 hv3 => ?nd3)
            case hd3 => go_simp; constructor <;> rfl
            case cd3 =>
              refine (above_any x.lo r w' HLO.out HRR.out).mono ?_
              rintro e w2 ⟨rfl, hb⟩
              exact ⟨_, rfl, hb, rfl⟩
            obtain ⟨_, -, -, rfl⟩ := hv3
            simp only [Act.put, List.setIfInBounds_toArray, List.set_cons_succ, List.set_cons_zero, Nat.reduceAdd]
            try rw [HB1.out]
            refine wM_val ?ud4 rfl rfl Ext.refl (fun w' hD => ?hd4) (fun phd4 => ?nd4)
            case hd4 =>
              obtain ⟨⟨e0, e1, e2, e3, e4⟩, f0, f1⟩ := FX.out w' hD.1
              go_simp; rfl
            simp only [Act.put, List.setIfInBounds_toArray, List.set_cons_succ, List.set_cons_zero, Nat.reduceAdd]
            refine wM_val ?ud5 rfl rfl Ext.refl (fun w' hD => ?hd5) (fun phd5 => ?nd5)
            case hd5 =>
              obtain ⟨⟨e0, e1, e2, e3, e4⟩, f0, f1⟩ := FX.out w' hD.1
              go_simp; rfl
            simp only [Act.put, List.setIfInBounds_toArray, List.set_cons_succ, List.set_cons_zero, Nat.reduceAdd]
            refine wM_val ?ud6 rfl rfl Ext.refl (fun w' hD => ?hd6) (fun phd6 => ?nd6)
            case hd6 =>
              obtain ⟨⟨e0, e1, e2, e3, e4⟩, f0, f1⟩ := FX.out w' hD.1
              go_simp; rfl
            simp only [Act.put, List.setIfInBounds_toArray, List.set_cons_succ, List.set_cons_zero, Nat.reduceAdd]
            refine wM_op _ rfl rfl (opens_call ?fd7 ?gd7 (fun w' hD => ?hd7) (fun w' hD => ?cd7)) (fun v7 hv7 => ?nd7)
            case hd7 => go_simp; constructor <;> rfl
            case cd7 =>
              refine (KMO.out w').mono ?_
              rintro e w2 ⟨rfl, hb⟩
              exact ⟨_, rfl, hb, rfl⟩
            obtain ⟨_, -, -, rfl⟩ := hv7
            simp only [Act.put, List.setIfInBounds_toArray, List.set_cons_succ, List.set_cons_zero, Nat.reduceAdd]
            refine wM_op _ rfl rfl (opens_call ?fd8 ?gd8 (fun w' hD => ?hd8) (fun w' hD => ?cd8)) (fun v8 hv8 => ?nd8)
            case hd8 => go_simp; constructor <;> rfl
            case cd8 =>
              refine (above_any r x.hi w' HRR.out HHI.out).mono ?_
              rintro e w2 ⟨rfl, hb⟩
              exact ⟨_, rfl, hb, rfl⟩
            obtain ⟨_, -, -, rfl⟩ := hv8
            simp only [Act.put, List.setIfInBounds_toArray, List.set_cons_succ, List.set_cons_zero, Nat.reduceAdd]
            try rw [HB2.out]
            refine wM_val ?ud9 rfl rfl Ext.refl (fun w' hD => ?hd9) (fun phd9 => ?nd9)
            case hd9 =>
              obtain ⟨⟨e0, e1, e2, e3, e4⟩, f0, f1⟩ := FX.out w' hD.1
              go_simp; rfl
            simp only [Act.put, List.setIfInBounds_toArray, List.set_cons_succ, List.set_cons_zero, Nat.reduceAdd]
            refine wM_nil ?_
            intro w9 hw9 hF9
            clear hF9
            clear HB1 HB2
            go_wp2
            go_roundw
            case rel => exact ⟨k + 1, n, A', c', by go_num, by omega, by unfold Hid; rw [HNX.out]; exact HKL.out, by omega, rfl, by rw [HNX.out]; exact own_below ho (hx7.trans hw9), hx.trans (hx7.trans hw9)⟩
            case measure => simp [intOf]; omega
      · have hlt' : ¬ (k : Int) < (M : Int) := by omega
        obtain rfl : k = M := by omega
        have hVL : Hid (V = falK h l k) := by unfold Hid; rw [HVK.out, HM.out]
        have hVn : Hid (V.length = n) := by unfold Hid; rw [hVL.out]; exact HKL.out
        go_wp2
        go_ret2
        exact ⟨A', ⟨c', by rw [hVn.out]; rfl⟩, hx1.trans (h13.trans hx), by rw [hVL.out]; exact Rd.of_own ho⟩
end Go.Proofs.YtjnobdcbbboeeaaGreat
