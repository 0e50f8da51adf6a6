/- The walk of WarnShifted. -/
import Derived.Test.YtgnjhaomlbkgcaaTurn
import Derived.Test.YtgnjhaomlbkgcaaWAwake
namespace Go.Proofs.Ytgnjhaomlbkgcaa
open Go Go.RowKit Go.Shelf

theorem MadeOK.sized {evm bm cm : Nat} {lo : Int} {c : Cs} {real : List Int} (h : MadeOK evm bm cm lo c real) (hb : bm ≤ 20) (hc : cm ≤ 8) : c.sized :=
  ⟨by have := h.bsl; omega, by have := h.cll; omega, fun x hx => by have := (h.cl x hx).2.1; omega⟩
theorem map_sized (f : Bd → Bd) {c : Cs} (h : c.sized) : (c.map f).sized := by
  obtain ⟨h1, h2, h3⟩ := h
  refine ⟨by simpa [Cs.map] using h1, by simpa [Cs.map] using h2, fun x hx => ?_⟩
  obtain ⟨y, hy, rfl⟩ := List.mem_map.1 (show x ∈ c.cl.map _ from hx)
  simpa using h3 y hy

set_option maxRecDepth 100000 in
set_option maxHeartbeats 8000000 in
theorem shifted_any (A : Option Addr) (l : List Int) (cap : Nat) (by_ : Int) (w : World) (hA : Bytes w A l) (hl : ∀ x ∈ l, 0 ≤ x ∧ x ≤ 255) (hlt : ∀ a, A = some a → l = [] ∨ a.block < w.heap.size) (hn : l.length ≤ 9223372036854775807) (h0 : 0 ≤ by_) (h255 : by_ ≤ 255) :
    Calls Try.prog 3 #[.slice A l.length cap, .int .u8 by_] w fun e w' => e = .returned (.bool true) ∧ Ext w w' := by
  go_enter Try.func3, Try.ntmps3
  go_wp2_with fail
  have x0 := Ext.alloc (Ext.refl w) (.cells #[.int .u8 by_] 5)
  have k0 : (w.alloc (.cells #[.int .u8 by_] 5)).cell? ⟨w.heap.size, 0, none⟩ = some (.int .u8 by_) := by simp [go_sem]
  have hs0 : w.heap.size + 1 ≤ (w.alloc (.cells #[.int .u8 by_] 5)).heap.size := by simp
  refine (pile_any A l cap _ (Rd.ext hA x0) hl (fun a ha => (hlt a ha).imp id (fun h => by omega)) hn).mono ?_
  rintro e w1 ⟨D, rfl, hD, hx1, hh1⟩
  have k1 := hx1.cell k0
  have x1 := x0.trans hx1
  have hs1 := hx1.size
  clear k0 hA hlt
  go_wp2_with fail
  refine Calls.mono (made_any D 7 14 3 0 w1 hh1 (by omega) (by omega) (by omega) (by omega) (by omega) (by omega)) ?_
  rintro e w2 ⟨v, c, real, A3, c3, rfl, hc, hI, hM, hb2, hh2⟩
  have k2 := hb2.cell k1 (by show w.heap.size ≠ D; omega)
  have x2 := x1.then_bel (by omega) hb2
  have hsz := hM.sized (by omega) (by omega)
  obtain ⟨A1, c1, A2, c2, rfl, hB, hC⟩ := hc
  have HM := hid hM
  clear hb2 hh2 hI hh1 k1 x1 hs1 hs0 hD hM
  go_wp2_with fail
  have G2 := heap_alloc_new w2 (.cells #[.int .i64 c.ev, .slice A1 c.bs.length c1, .int .i64 c.wi, .slice A2 c.cl.length c2] 26)
  have xa := Ext.alloc (Ext.refl w2) (.cells #[.int .i64 c.ev, .slice A1 c.bs.length c1, .int .i64 c.wi, .slice A2 c.cl.length c2] 26)
  generalize hW3 : w2.alloc (.cells #[.int .i64 c.ev, .slice A1 c.bs.length c1, .int .i64 c.wi, .slice A2 c.cl.length c2] 26) = W3 at G2 xa ⊢
  clear hW3
  obtain ⟨Bc, hBc⟩ : ∃ Bc, w2.heap.size = Bc := ⟨_, rfl⟩
  rw [hBc] at G2 ⊢
  clear hBc
  have GC := hid G2
  have q0 := block_cell (i := 0) G2
  have q1 := block_cell (i := 1) G2
  have q2 := block_cell (i := 2) G2
  have q3 := block_cell (i := 3) G2
  simp only [List.getElem?_toArray, List.getElem?_cons_zero, List.getElem?_cons_succ] at q0 q1 q2 q3
  have hB3 := hB.ext xa
  have hC3 := hC.ext xa
  have k3 := xa.cell k2
  have x3 := x2.trans xa
  have HMS : Hid (∀ b ∈ c.all, -2000 ≤ b.m ∧ b.m ≤ 2000) := fun b hb => by
    obtain ⟨p1, p2, p3, p4, p5⟩ := HM.out.all_ (by decide) b hb
    have r1 := getD_real HM.out.real_ b.t.toNat
    have r2 := getD_real HM.out.real_ b.f.toNat
    have : lowM 0 = 0 := rfl
    omega
  have hl1 : c.bs.length ≤ 100 := by have := HM.out.bsl; omega
  have hl2 : c.cl.length ≤ 100 := by have := HM.out.cll; omega
  have hl3 : ∀ x ∈ c.cl, x.bs.length ≤ 100 := fun x hx => by have := (HM.out.cl x hx).2.1; omega
  have HL3 := hid hl3
  have HSZ := hid hsz
  clear G2 hB hC k2 xa x2 hsz hl3
  refine (turn_any _ (laterB by_) _ Bc A1 c1 A2 c2 c W3 q0 q1 q2 q3 hB3 hC3 (later_map w.heap.size by_ W3 k3 h0 h255) HMS.out hl1 hl2 HL3.out).mono ?_
  rintro e w4 ⟨vL, rfl, hcL, hx4⟩
  have HSL : Hid ((c.map (laterB by_)).sized) := map_sized _ HSZ.out
  obtain ⟨cL, hL⟩ : ∃ cL, c.map (laterB by_) = cL := ⟨_, rfl⟩
  have HL := hid hL
  rw [hL] at hcL HSL
  clear hL
  obtain ⟨L1, l1, L2, l2, rfl, hBL, hCL⟩ := hcL
  have q04 := hx4.cell q0
  have q14 := hx4.cell q1
  have q24 := hx4.cell q2
  have q34 := hx4.cell q3
  have x4 := x3.trans hx4
  have hB4 := hB3.ext hx4
  have hC4 := hC3.ext hx4
  have GC4 := hid ((Below.block hx4 Bc (World.block_lt_of_cell? W3 _ q0)).trans GC.out)
  clear q0 q1 q2 q3 GC hB3 hC3 k3 x3 hx4
  go_wp2_with fail
  have G5 := heap_alloc_new w4 (.cells #[.int .i64 cL.ev, .slice L1 cL.bs.length l1, .int .i64 cL.wi, .slice L2 cL.cl.length l2] 26)
  have xa := Ext.alloc (Ext.refl w4) (.cells #[.int .i64 cL.ev, .slice L1 cL.bs.length l1, .int .i64 cL.wi, .slice L2 cL.cl.length l2] 26)
  generalize hW5 : w4.alloc (.cells #[.int .i64 cL.ev, .slice L1 cL.bs.length l1, .int .i64 cL.wi, .slice L2 cL.cl.length l2] 26) = W5 at G5 xa ⊢
  clear hW5
  obtain ⟨BL, hBLL⟩ : ∃ BL, w4.heap.size = BL := ⟨_, rfl⟩
  rw [hBLL] at G5 ⊢
  clear hBLL
  have GL := hid G5
  clear G5
  have hBL5 := hBL.ext xa
  have hCL5 := hCL.ext xa
  refine (turn_any _ backB _ Bc A1 c1 A2 c2 c W5 (xa.cell q04) (xa.cell q14) (xa.cell q24) (xa.cell q34) (hB4.ext xa) (hC4.ext xa) (back_map W5) HMS.out hl1 hl2 HL3.out).mono ?_
  rintro e w6 ⟨vB, rfl, hcB, hx6⟩
  have HSB : Hid ((c.map backB).sized) := map_sized _ HSZ.out
  obtain ⟨cB, hBk⟩ : ∃ cB, c.map backB = cB := ⟨_, rfl⟩
  have HBk := hid hBk
  rw [hBk] at hcB HSB
  clear hBk
  obtain ⟨M1, m1, M2, m2, rfl, hBB, hCB⟩ := hcB
  have xx := xa.trans hx6
  have x6 := x4.trans xx
  have hB6 := hB4.ext xx
  have hC6 := hC4.ext xx
  have hBL6 := hBL5.ext hx6
  have hCL6 := hCL5.ext hx6
  have GC6 := (Below.block xx Bc (World.block_lt_of_cell? w4 _ q04)).trans GC4.out
  have GL6 := (Below.block hx6 BL (World.block_lt_of_cell? W5 ⟨BL, 0, none⟩ (by rw [block_cell GL.out]; rfl))).trans GL.out
  clear q04 q14 q24 q34 GC4 GL hB4 hC4 hBL hCL hBL5 hCL5 x4 xx xa hx6
  have xa := Ext.alloc (Ext.refl w6) (.cells #[.int .i64 cB.ev, .slice M1 cB.bs.length m1, .int .i64 cB.wi, .slice M2 cB.cl.length m2] 26)
  have G7 := heap_alloc_new w6 (.cells #[.int .i64 cB.ev, .slice M1 cB.bs.length m1, .int .i64 cB.wi, .slice M2 cB.cl.length m2] 26)
  have q0 := fun o => (Ext.alloc (Ext.refl w6) o).cell (show w6.cell? ⟨Bc, 0, none⟩ = some (.int .i64 c.ev) by rw [block_cell GC6]; rfl)
  go_wp2_with fail
  generalize hW7 : w6.alloc (.cells #[.int .i64 cB.ev, .slice M1 cB.bs.length m1, .int .i64 cB.wi, .slice M2 cB.cl.length m2] 26) = W7 at G7 xa ⊢
  clear hW7 q0
  obtain ⟨BB, hBBk⟩ : ∃ BB, w6.heap.size = BB := ⟨_, rfl⟩
  have hlc : Bc < w6.heap.size := (Array.getElem?_eq_some_iff.1 GC6).1
  have hll : BL < w6.heap.size := (Array.getElem?_eq_some_iff.1 GL6).1
  have GC := hid ((Below.block xa Bc hlc).trans GC6)
  have GL := hid ((Below.block xa BL hll).trans GL6)
  rw [hBBk] at G7 ⊢
  clear hBBk hlc hll GC6 GL6
  have GB := hid G7
  have hB := hB6.ext xa
  have hC := hC6.ext xa
  have hBL := hBL6.ext xa
  have hCL := hCL6.ext xa
  have hBB := hBB.ext xa
  have hCB := hCB.ext xa
  have x7 := x6.trans xa
  have HC : Hid (CsR W7 (.agg #[.int .i64 c.ev, .slice A1 c.bs.length c1, .int .i64 c.wi, .slice A2 c.cl.length c2]) c) := ⟨A1, c1, A2, c2, rfl, hB, hC⟩
  have HCL : Hid (CsR W7 (.agg #[.int .i64 cL.ev, .slice L1 cL.bs.length l1, .int .i64 cL.wi, .slice L2 cL.cl.length l2]) cL) := ⟨L1, l1, L2, l2, rfl, hBL, hCL⟩
  have HCB : Hid (CsR W7 (.agg #[.int .i64 cB.ev, .slice M1 cB.bs.length m1, .int .i64 cB.wi, .slice M2 cB.cl.length m2]) cB) := ⟨M1, m1, M2, m2, rfl, hBB, hCB⟩
  clear G7 xa hB hC hBL hCL hBB hCB hB6 hC6 hBL6 hCL6 x6
  have hev2 := HM.out.ev2
  have hev7 : c.ev ≤ 7 := HM.out.evm
  go_loopw [36] (fun i wr => ∃ a : Nat, i = .int .i64 (a : Int) ∧ (a : Int) ≤ c.ev ∧ Ext W7 wr) (fun i _ => (c.ev - intOf i).toNat)
  case atStart => exact ⟨0, rfl, by omega, Ext.refl _⟩
  case round =>
    obtain ⟨a, rfl, ha, hx⟩ := hrel
    by_cases hlt : (a : Int) < c.ev
    · have gC := (Below.block hx Bc (Array.getElem?_eq_some_iff.1 GC.out).1).trans GC.out
      have q0 := block_cell (i := 0) gC
      simp only [List.getElem?_toArray, List.getElem?_cons_zero] at q0
      clear gC
      obtain ⟨wo, rfl⟩ : ∃ wo : World, wo = wr := ⟨_, rfl⟩
      go_wp2
      clear q0
      go_loopw [41] (fun i wr => ∃ b : Nat, i = .int .i64 (b : Int) ∧ (b : Int) ≤ c.ev ∧ Ext W7 wr) (fun i _ => (c.ev - intOf i).toNat)
      case atStart => exact ⟨0, rfl, by omega, hx⟩
      case round =>
        obtain ⟨b, rfl, hb, hxb⟩ := hrel
        by_cases hltb : (b : Int) < c.ev
        · have P := shifted_plain HM.out h0 h255 hlt hltb
          rw [HL.out, HBk.out] at P
          obtain ⟨e1, e2, e3, e4, e5, e6⟩ := P
          have gC := (Below.block hxb Bc (Array.getElem?_eq_some_iff.1 GC.out).1).trans GC.out
          have gL := (Below.block hxb BL (Array.getElem?_eq_some_iff.1 GL.out).1).trans GL.out
          have gB := (Below.block hxb BB (Array.getElem?_eq_some_iff.1 GB.out).1).trans GB.out
          have q0 := block_cell (i := 0) gC
          have q1 := block_cell (i := 1) gC
          have q2 := block_cell (i := 2) gC
          have q3 := block_cell (i := 3) gC
          simp only [List.getElem?_toArray, List.getElem?_cons_zero, List.getElem?_cons_succ] at q0 q1 q2 q3
          have GCb := hid gC
          have GLb := hid gL
          have GBb := hid gB
          clear gC gL gB
          obtain ⟨V, hV⟩ : ∃ V, (beforeOf c a b).1 = V := ⟨_, rfl⟩
          obtain ⟨W, hW⟩ : ∃ W, (beforeOf cL a b).1 = W := ⟨_, rfl⟩
          rw [hV] at e4 e5
          rw [hW] at e5
          obtain ⟨N, hN⟩ : ∃ N, (gapOf c a b).1 = N := ⟨_, rfl⟩
          obtain ⟨H, hH⟩ : ∃ H, (gapOf c a b).2 = H := ⟨_, rfl⟩
          have K1 := (before_any _ c a b wr (HC.out.ext hxb) HSZ.out)
          rw [hV, e1] at K1
          have HK1 := hid K1
          have HVW := hid e5
          have E2 := hid e2
          have E3 := hid e3
          have E4 := hid e4
          have E6 := hid e6
          have HW := hid hW
          have HN := hid hN
          have HH := hid hH
          clear e1 e2 e3 e4 e5 e6 hV hW hN hH K1
          go_wp2_with fail
          refine HK1.out.mono ?_
          rintro e v1 ⟨rfl, y1⟩
          have z1 := hxb.trans y1
          clear q0 q1 q2 q3 y1
          have g := (Below.block z1 BL (Array.getElem?_eq_some_iff.1 GL.out).1).trans GL.out
          have q0 := block_cell (i := 0) g
          have q1 := block_cell (i := 1) g
          have q2 := block_cell (i := 2) g
          have q3 := block_cell (i := 3) g
          simp only [List.getElem?_toArray, List.getElem?_cons_zero, List.getElem?_cons_succ] at q0 q1 q2 q3
          clear g
          go_wp2_with fail
          have K := before_any _ cL a b v1 (HCL.out.ext z1) HSL.out
          rw [HW.out, E2.out] at K
          refine K.mono ?_
          clear K
          rintro e v2 ⟨rfl, y⟩
          have z2 := z1.trans y
          clear q0 q1 q2 q3 y
          have g := (Below.block z2 BB (Array.getElem?_eq_some_iff.1 GB.out).1).trans GB.out
          have q0 := block_cell (i := 0) g
          have q1 := block_cell (i := 1) g
          have q2 := block_cell (i := 2) g
          have q3 := block_cell (i := 3) g
          simp only [List.getElem?_toArray, List.getElem?_cons_zero, List.getElem?_cons_succ] at q0 q1 q2 q3
          clear g
          go_wp2_with fail
          have K := before_any _ cB b a v2 (HCB.out.ext z2) HSB.out
          rw [E4.out, E3.out] at K
          refine K.mono ?_
          clear K
          rintro e v3 ⟨rfl, y⟩
          have z3 := z2.trans y
          clear q0 q1 q2 q3 y
          have g := (Below.block z3 Bc (Array.getElem?_eq_some_iff.1 GC.out).1).trans GC.out
          have q0 := block_cell (i := 0) g
          have q1 := block_cell (i := 1) g
          have q2 := block_cell (i := 2) g
          have q3 := block_cell (i := 3) g
          simp only [List.getElem?_toArray, List.getElem?_cons_zero, List.getElem?_cons_succ] at q0 q1 q2 q3
          clear g
          go_wp2_with fail
          have K := gap_any _ c a b v3 (HC.out.ext z3) HSZ.out
          rw [HN.out, HH.out] at K
          refine K.mono ?_
          clear K
          rintro e v4 ⟨rfl, y⟩
          have z4 := z3.trans y
          clear q0 q1 q2 q3 y
          have g := (Below.block z4 BB (Array.getElem?_eq_some_iff.1 GB.out).1).trans GB.out
          have q0 := block_cell (i := 0) g
          have q1 := block_cell (i := 1) g
          have q2 := block_cell (i := 2) g
          have q3 := block_cell (i := 3) g
          simp only [List.getElem?_toArray, List.getElem?_cons_zero, List.getElem?_cons_succ] at q0 q1 q2 q3
          clear g
          go_wp2_with fail
          have K := gap_any _ cB b a v4 (HCB.out.ext z4) HSB.out
          rw [E6.out, HN.out, HH.out] at K
          refine K.mono ?_
          clear K
          rintro e v5 ⟨rfl, y⟩
          have z5 := z4.trans y
          clear q0 q1 q2 q3 y
          by_cases ha0 : 0 < a
          · by_cases hb0 : 0 < b
            · have ha0' : (0 : Int) < (a : Int) := by omega
              have hb0' : (0 : Int) < (b : Int) := by omega
              have hWV : W = V := HVW.out ha0 hb0
              subst hWV
              go_wp2
              go_roundw
              case rel => exact ⟨b + 1, by go_num, by omega, z5⟩
              case measure => simp [intOf]; omega
            · have ha0' : (0 : Int) < (a : Int) := by omega
              have hb0' : ¬ (0 : Int) < (b : Int) := by omega
              go_wp2
              go_roundw
              case rel => exact ⟨b + 1, by go_num, by omega, z5⟩
              case measure => simp [intOf]; omega
          · have ha0' : ¬ (0 : Int) < (a : Int) := by omega
            go_wp2
            go_roundw
            case rel => exact ⟨b + 1, by go_num, by omega, z5⟩
            case measure => simp [intOf]; omega
        · have hltb' : c.ev ≤ (b : Int) := by omega
          go_wp2
          go_roundw
          case rel => exact ⟨a + 1, by go_num, by omega, hxb⟩
          case measure => simp [intOf]; omega
    · have hlt' : c.ev ≤ (a : Int) := by omega
      go_wp2_with fail
      refine (awake_any wr).mono ?_
      rintro e v9 ⟨rfl, y⟩
      go_wp2
      go_ret
      exact ⟨rfl, (x7.trans hx).trans y⟩
end Go.Proofs.Ytgnjhaomlbkgcaa
