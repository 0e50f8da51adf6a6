/- The walk of WarnGaps. Printed by my gen_gaps.py. -/
import Derived.Test.YtgnjhaomlbkgcaaWMade
import Derived.Test.YtgnjhaomlbkgcaaWAwake
import Derived.Test.YtgnjhaomlbkgcaaWGapsP
import Derived.Test.YtgnjhaomlbkgcaaWAsk2
import Derived.Test.YtgnjhaomlbkgcaaWLatest
import Derived.Test.YtgnjhaomlbkgcaaSum
import Derived.Test.YtgnjhaomlbkgcaaEqI
import Derived.Test.YtgnjhaomlbkgcaaGapsT
import Derived.Test.YtgnjhaomlbkgcaaGaps6
namespace Go.Proofs.Ytgnjhaomlbkgcaa
open Go Go.RowKit Go.Shelf
set_option linter.unusedVariables false
set_option linter.unusedSimpArgs false

set_option maxRecDepth 100000 in
set_option maxHeartbeats 8000000 in
theorem gapsw_any (A : Option Addr) (l : List Int) (cap : Nat) (A' : Option Addr) (l' : List Int) (cap' : Nat) (w : World) (hA : Bytes w A l) (hl : ∀ x ∈ l, 0 ≤ x ∧ x ≤ 255) (hlt : ∀ a, A = some a → l = [] ∨ a.block < w.heap.size) (hn : l.length ≤ 9223372036854775807)
    (hA' : Bytes w A' l') (hl' : ∀ x ∈ l', 0 ≤ x ∧ x ≤ 255) (hlt' : ∀ a, A' = some a → l' = [] ∨ a.block < w.heap.size) (hn' : l'.length ≤ 9223372036854775807) :
    Calls Try.prog 5 #[.slice A l.length cap, .slice A' l'.length cap'] w fun e w' => e = .returned (.bool true) ∧ Ext w w' := by
  go_enter Try.func5, Try.ntmps5
  go_wp2_with fail
  refine (pile_any A l cap _ hA hl hlt hn).mono ?_
  rintro e w1 ⟨D, rfl, hD, hx1, hh1⟩
  have hs1 := hx1.size
  clear hA hlt hl
  go_wp2_with fail
  refine Calls.mono (made_any D 7 16 3 0 w1 hh1 (by omega) (by omega) (by omega) (by omega) (by omega) (by omega)) ?_
  rintro e w2 ⟨v, c, real, A3, c3, rfl, hc, hI, hM, hb2, hh2⟩
  have x2 := hx1.then_bel (by omega) hb2
  have hsz := hM.sized1 (by omega) (by omega)
  have h0 := hM.check (by decide) (by decide) (by omega) (by omega) (by omega)
  have G := hid (gaps_ok hM (by omega) (by omega) (by omega))
  have hrl := hM.len
  have HRE := hid hM.real_
  have hev7 : c.ev ≤ 7 := hM.evm
  have hev2 := hM.ev2
  have HM := hid hM
  obtain ⟨N, hN⟩ : ∃ N : Nat, c.ev = N := ⟨c.ev.toNat, by omega⟩
  obtain ⟨A1, c1, A2, c2, hv, hB, hC⟩ := hc
  rw [hN] at hv hrl hev7 hev2
  subst hv
  have HN := hid hN
  have hN7 : N ≤ 7 := by omega
  have hN2 : 2 ≤ N := by omega
  clear hb2 hh2 hh1 hs1 hD hM hx1 hN hev7 hev2
  go_wp2_with fail
  have G2 := heap_alloc_new w2 (.cells #[.int .i64 (N : Int), .slice A1 c.bs.length c1, .int .i64 c.wi, .slice A2 c.cl.length c2] 26)
  have xa := Ext.alloc (Ext.refl w2) (.cells #[.int .i64 (N : Int), .slice A1 c.bs.length c1, .int .i64 c.wi, .slice A2 c.cl.length c2] 26)
  generalize hW3 : w2.alloc (.cells #[.int .i64 (N : Int), .slice A1 c.bs.length c1, .int .i64 c.wi, .slice A2 c.cl.length c2] 26) = W3 at G2 xa ⊢
  clear hW3
  obtain ⟨Bc, hBc⟩ : ∃ Bc, w2.heap.size = Bc := ⟨_, rfl⟩
  rw [hBc] at G2 ⊢
  clear hBc
  have hc3 : CsR W3 (.agg #[.int .i64 (N : Int), .slice A1 c.bs.length c1, .int .i64 c.wi, .slice A2 c.cl.length c2]) c := ⟨A1, c1, A2, c2, by rw [HN.out], hB.ext xa, hC.ext xa⟩
  have x3 := x2.trans xa
  have hBc3 : Bc < W3.heap.size := (Array.getElem?_eq_some_iff.1 G2).1
  have hI3 := Ints.ext hI xa
  have HSZ := hid hsz
  have H0 := hid h0
  have HX3 := hid x3
  have HX3w := hid x3
  have HC3 := hid hc3
  have FC3 : Hid (∀ w', Ext W3 w' → w'.cell? ⟨Bc, 0, none⟩ = some (.int .i64 (N : Int)) ∧ w'.cell? ⟨Bc, 1, none⟩ = some (.slice A1 c.bs.length c1) ∧ w'.cell? ⟨Bc, 2, none⟩ = some (.int .i64 c.wi) ∧ w'.cell? ⟨Bc, 3, none⟩ = some (.slice A2 c.cl.length c2)) := fun w' h => by
    have G := (Below.block h Bc hBc3).trans G2
    exact ⟨block_cell (i := 0) G, block_cell (i := 1) G, block_cell (i := 2) G, block_cell (i := 3) G⟩
  refine (pile_any A' l' cap' W3 (Rd.ext hA' x3) hl' (fun a ha => (hlt' a ha).imp id (fun h => by have := x3.size; omega)) hn').mono ?_
  rintro e w4 ⟨D2, rfl, hD2, hx4, hh4⟩
  clear hA' hlt' hl' hB hC x2 xa x3 hI hsz
  have G4 := (Below.block hx4 Bc hBc3).trans G2
  have hc4 := hc3.ext hx4
  have hI4 := hI3.ext hx4
  have K5 := allw_any _ c w4 hc4 HSZ.out
  rw [h0] at K5
  have q0 := block_cell (i := 0) G4
  have q1 := block_cell (i := 1) G4
  have q2 := block_cell (i := 2) G4
  have q3 := block_cell (i := 3) G4
  simp only [List.getElem?_toArray, List.getElem?_cons_zero, List.getElem?_cons_succ] at q0 q1 q2 q3
  have GC4 := hid G4
  clear hc3 hI3 G2 G4 h0
  go_wp2_with fail
  refine K5.mono ?_
  clear K5 q0 q1 q2 q3
  rintro e w5 ⟨rA, rfl, hx5, hAok, -⟩
  obtain ⟨AL, cL, rfl, hown⟩ := hAok (by first | rfl | trivial)
  have hBL5 : Bounds w5 AL c.all := Rd.of_own hown
  have HOWN := hid hown
  have HX35 := hid (hx4.trans hx5)
  have HD23 := hid hD2
  have hs5 := hx5.size
  have hD4 := hh4.lt
  have HD4 := hid hD4
  have hBc4 : Bc < w4.heap.size := by have := hx4.size; omega
  have G5 := (Below.block hx5 Bc hBc4).trans GC4.out
  have hc5 := hc4.ext hx5
  have hI5 := hI4.ext hx5
  have hh5 := hh4.ext hx5
  clear hAok hown hc4 hI4 hh4 GC4
  have qq : ∀ o, (w5.alloc o).cell? ⟨Bc, 0, none⟩ = some (.int .i64 (N : Int)) := fun o => (Ext.alloc (Ext.refl w5) o).cell (block_cell (i := 0) G5)
  go_wp2
  have xg := Ext.alloc (Ext.refl w5) (.cells #[.int .i64 0, .int .i64 0, .int .i64 0, .int .i64 0, .int .i64 0, .int .i64 0, .int .i64 0, .int .i64 0, .int .i64 0, .int .i64 0, .int .i64 0, .int .i64 0, .int .i64 0, .int .i64 0, .int .i64 0, .int .i64 0, .int .i64 0, .int .i64 0, .int .i64 0, .int .i64 0, .int .i64 0, .int .i64 0, .int .i64 0, .int .i64 0, .int .i64 0, .int .i64 0, .int .i64 0, .int .i64 0, .int .i64 0, .int .i64 0, .int .i64 0, .int .i64 0, .int .i64 0, .int .i64 0, .int .i64 0, .int .i64 0, .int .i64 0, .int .i64 0, .int .i64 0, .int .i64 0, .int .i64 0, .int .i64 0, .int .i64 0, .int .i64 0, .int .i64 0, .int .i64 0, .int .i64 0, .int .i64 0, .int .i64 0, .int .i64 0, .int .i64 0, .int .i64 0, .int .i64 0, .int .i64 0, .int .i64 0, .int .i64 0, .int .i64 0, .int .i64 0, .int .i64 0, .int .i64 0, .int .i64 0, .int .i64 0, .int .i64 0, .int .i64 0] 57)
  have GT := gb_new w5 #[.int .i64 0, .int .i64 0, .int .i64 0, .int .i64 0, .int .i64 0, .int .i64 0, .int .i64 0, .int .i64 0, .int .i64 0, .int .i64 0, .int .i64 0, .int .i64 0, .int .i64 0, .int .i64 0, .int .i64 0, .int .i64 0, .int .i64 0, .int .i64 0, .int .i64 0, .int .i64 0, .int .i64 0, .int .i64 0, .int .i64 0, .int .i64 0, .int .i64 0, .int .i64 0, .int .i64 0, .int .i64 0, .int .i64 0, .int .i64 0, .int .i64 0, .int .i64 0, .int .i64 0, .int .i64 0, .int .i64 0, .int .i64 0, .int .i64 0, .int .i64 0, .int .i64 0, .int .i64 0, .int .i64 0, .int .i64 0, .int .i64 0, .int .i64 0, .int .i64 0, .int .i64 0, .int .i64 0, .int .i64 0, .int .i64 0, .int .i64 0, .int .i64 0, .int .i64 0, .int .i64 0, .int .i64 0, .int .i64 0, .int .i64 0, .int .i64 0, .int .i64 0, .int .i64 0, .int .i64 0, .int .i64 0, .int .i64 0, .int .i64 0, .int .i64 0] (by rfl)
  generalize hW6 : w5.alloc (.cells #[.int .i64 0, .int .i64 0, .int .i64 0, .int .i64 0, .int .i64 0, .int .i64 0, .int .i64 0, .int .i64 0, .int .i64 0, .int .i64 0, .int .i64 0, .int .i64 0, .int .i64 0, .int .i64 0, .int .i64 0, .int .i64 0, .int .i64 0, .int .i64 0, .int .i64 0, .int .i64 0, .int .i64 0, .int .i64 0, .int .i64 0, .int .i64 0, .int .i64 0, .int .i64 0, .int .i64 0, .int .i64 0, .int .i64 0, .int .i64 0, .int .i64 0, .int .i64 0, .int .i64 0, .int .i64 0, .int .i64 0, .int .i64 0, .int .i64 0, .int .i64 0, .int .i64 0, .int .i64 0, .int .i64 0, .int .i64 0, .int .i64 0, .int .i64 0, .int .i64 0, .int .i64 0, .int .i64 0, .int .i64 0, .int .i64 0, .int .i64 0, .int .i64 0, .int .i64 0, .int .i64 0, .int .i64 0, .int .i64 0, .int .i64 0, .int .i64 0, .int .i64 0, .int .i64 0, .int .i64 0, .int .i64 0, .int .i64 0, .int .i64 0, .int .i64 0] 57) = W6 at xg GT ⊢
  clear hW6 qq
  obtain ⟨Bg, hBg⟩ : ∃ Bg, w5.heap.size = Bg := ⟨_, rfl⟩
  rw [hBg] at GT ⊢
  have hD2g : D2 < Bg := by omega
  have hBcg : Bc < Bg := by omega
  have hBcD : Bc < D2 := by omega
  rw [← tabTo_start c N] at GT
  have HBg := hid hBg
  have hc5s : Bc < w5.heap.size := by omega
  have FC : Hid (∀ w', Ext w5 w' → w'.cell? ⟨Bc, 0, none⟩ = some (.int .i64 (N : Int)) ∧ w'.cell? ⟨Bc, 1, none⟩ = some (.slice A1 c.bs.length c1) ∧ w'.cell? ⟨Bc, 2, none⟩ = some (.int .i64 c.wi) ∧ w'.cell? ⟨Bc, 3, none⟩ = some (.slice A2 c.cl.length c2)) := fun w' h => by
    have G := (Below.block h Bc hc5s).trans G5
    exact ⟨block_cell (i := 0) G, block_cell (i := 1) G, block_cell (i := 2) G, block_cell (i := 3) G⟩
  have HC := hid hc5
  have HI := hid hI5
  have HBL := hid hBL5
  have HH := hid hh5
  have hx4s := hx4.size
  have HX5 : Hid (Ext w w5) := HX3.out.trans (hx4.trans hx5)
  clear G5 hc5 hI5 hBL5 hh5 hBg hc5s hs5 hD4 hBc4 hx5 hx4 HX3 hBc3 hD2
  go_loopw [47] (fun i wr => ∃ a : Nat, i = .int .i64 (a : Int) ∧ a ≤ N ∧ GB wr Bg (tabTo c N a 0) ∧ Ext w5 wr) (fun i _ => (N - (intOf i).toNat))
  case atStart => exact ⟨0, rfl, by omega, GT, xg⟩
  case round =>
    obtain ⟨a, rfl, ha, hG, hx⟩ := hrel
    by_cases hlt1 : a < N
    · have hlt1' : (a : Int) < (N : Int) := by omega
      obtain ⟨q0, -⟩ := FC.out wr hx
      obtain ⟨wo, rfl⟩ : ∃ wo : World, wo = wr := ⟨_, rfl⟩
      go_wp2
      clear q0
      go_loopw [52] (fun i wr => ∃ b : Nat, i = .int .i64 (b : Int) ∧ b ≤ N ∧ GB wr Bg (tabTo c N a b) ∧ Ext w5 wr) (fun i _ => (N - (intOf i).toNat))
      case atStart => exact ⟨0, rfl, by omega, hG, hx⟩
      case round =>
      obtain ⟨b, rfl, hb, hG, hx⟩ := hrel
      by_cases hlt2 : ¬ b < N
      · have hlt2' : ¬ (b : Int) < (N : Int) := by omega
        have hbN : b = N := by omega
        subst hbN
        rw [tabTo_next] at hG
        go_wp2
        go_roundw
        case rel => exact ⟨a + 1, by go_num, by omega, hG, hx⟩
        case measure => simp [intOf]; omega
      have hlt2 : b < N := by omega
      have hlt2' : (b : Int) < (N : Int) := by omega
      have ha8 : (a : Int) < 8 := by omega
      have hb8 : (b : Int) < 8 := by omega
      obtain ⟨q0, q1, q2, q3⟩ := FC.out wr hx
      have K := gap_any _ c (a : Int) (b : Int) wr (HC.out.ext hx) HSZ.out
      rcases G.out.one a b (by rw [HN.out]; exact hlt1') (by rw [HN.out]; exact hlt2') with ⟨e1, e2, e3, e4⟩ | ⟨e1, e2, e3⟩
      · rw [e1] at K
        have hz := tabTo_set c (a := a) hlt2
        generalize gst c a b = g at K e2 e3 e4 hz
        have hK := hid K
        have HZ := hid hz
        have hG0 := hid hG
        obtain ⟨ra, hra⟩ := get_of_lt real a (by omega)
        obtain ⟨rb, hrb⟩ := get_of_lt real b (by omega)
        rw [List.getD_eq_getElem?_getD, List.getD_eq_getElem?_getD, hra, hrb] at e3
        simp only [Option.getD_some] at e3
        have ra1 := HRE.out ra (mem_of_get hra)
        have rb1 := HRE.out rb (mem_of_get hrb)
        obtain ⟨b3, off3, rfl, p0⟩ := Ints.at_ (Ints.ext HI.out hx) hra
        obtain ⟨b3', off3', e9, p1⟩ := Ints.at_ (Ints.ext HI.out hx) hrb
        cases e9
        have hrl1 : (a : Int) < (real.length : Int) := by omega
        have hrl2 : (b : Int) < (real.length : Int) := by omega
        have hd1 : decide (g < rb - ra) = false := by simp; omega
        have hsum : IntKind.i64.wrap (rb - ra) = rb - ra := IntWalk.i64_in _ ⟨by omega, by omega⟩
        have P0 := hid p0
        have P1 := hid p1
        clear K hz hG hra hrb e1 p0 p1
        go_wp2_with fail
        refine hK.out.mono ?_
        rintro e w9 ⟨rfl, h9⟩
        have hx9 := hx.trans h9
        have p0 := h9.cell P0.out
        have p1 := h9.cell P1.out
        have hG9 := hG0.out.ext h9
        have hfz := hG9.frozen (a * 8 + b)
        have hcc := hG9.at_ (a := a) (b := b) (by omega) (by omega)
        have HG9 := hid hG9
        clear q0 q1 q2 q3 hK hG0 P0 P1 h9 hG9 hx
        by_cases hab : a = b
        · subst hab
          have h0 := e4 rfl
          subst h0
          clear e4
          go_wp2
          go_quiet (fail)
          go_wp2
          go_roundw
          case rel => exact ⟨a + 1, by go_num, by omega, by rw [← HZ.out]; exact (HG9.out.ext (Ext.drewN (Ext.refl _) _)).set (by omega) (by omega) _, (hx9.drewN _).setCell (by show w5.heap.size ≤ Bg; rw [HBg.out]; exact Nat.le_refl _) _⟩
          case measure => simp [intOf]; omega
        · have hab1 : ((a : Int) == (b : Int)) = false := by simp; omega
          have hab2 : ¬ (a : Int) = (b : Int) := by omega
          clear e4
          go_wp2
          go_quiet (fail)
          go_wp2
          go_roundw
          case rel => exact ⟨b + 1, by go_num, by omega, by rw [← HZ.out]; exact (HG9.out.ext (Ext.drewN (Ext.refl _) _)).set (by omega) (by omega) _, (hx9.drewN _).setCell (by show w5.heap.size ≤ Bg; rw [HBg.out]; exact Nat.le_refl _) _⟩
          case measure => simp [intOf]; omega
      · rw [e1] at K
        have hz := tabTo_set2 c (a := a) hlt2 0
        rw [e2] at hz
        have hK := hid K
        have HZ := hid hz
        have hG0 := hid hG
        clear K hz hG e1 e2
        go_wp2_with fail
        refine hK.out.mono ?_
        rintro e w9 ⟨rfl, h9⟩
        have hx9 := hx.trans h9
        have hG9 := hG0.out.ext h9
        have hfz := hG9.frozen (a * 8 + b)
        have hcc := hG9.at_ (a := a) (b := b) (by omega) (by omega)
        have HG9 := hid hG9
        clear q0 q1 q2 q3 hK hG0 h9 hG9 hx e3
        go_wp2
        go_quiet (fail)
        go_wp2
        go_roundw
        case rel => exact ⟨b + 1, by go_num, by omega, by rw [← HZ.out]; exact ((HG9.out.ext (Ext.drewN (Ext.refl _) _)).set (by omega) (by omega) _).set (by omega) (by omega) _, ((hx9.drewN _).setCell (by show w5.heap.size ≤ Bg; rw [HBg.out]; exact Nat.le_refl _) _).setCell (by show w5.heap.size ≤ Bg; rw [HBg.out]; exact Nat.le_refl _) _⟩
        case measure => simp [intOf]; omega
    · have hlt1' : ¬ (a : Int) < (N : Int) := by omega
      have haN : a = N := by omega
      subst haN
      obtain ⟨W7, rfl⟩ : ∃ W7 : World, W7 = wr := ⟨_, rfl⟩
      have FG : Hid (∀ w', Ext W7 w' → ∀ x y : Nat, x < a → y < a → w'.cell? ⟨Bg, x * 8 + y, none⟩ = some (.int .i64 (gst c x y))) := fun w' h x y hx hy => by
        have := (hG.ext h).at_ (a := x) (b := y) (by omega) (by omega)
        rw [tabTo_get c hx hy] at this; exact this
      have HG7 := hid hG
      have HX7 := hid hx
      have hBg7 := hG.lt
      obtain ⟨q0, -⟩ := FC.out W7 hx
      clear hG hx
      go_wp2
      clear q0
      go_loopw [109] (fun i wr => ∃ x : Nat, i = .int .i64 (x : Int) ∧ x ≤ a ∧ Ext W7 wr) (fun i _ => (a - (intOf i).toNat))
      case atStart => exact ⟨0, rfl, by omega, Ext.refl _⟩
      case round =>
        obtain ⟨x, rfl, hx1, hx⟩ := hrel
        by_cases hlx : x < a
        · have hlx' : (x : Int) < (a : Int) := by omega
          have hx8 : (x : Int) < 8 := by omega
          obtain ⟨q0, -⟩ := FC.out wr (HX7.out.trans hx)
          obtain ⟨wo, rfl⟩ : ∃ wo : World, wo = wr := ⟨_, rfl⟩
          go_wp2
          clear q0
          go_loopw [114] (fun i wr => ∃ y : Nat, i = .int .i64 (y : Int) ∧ y ≤ a ∧ Ext W7 wr) (fun i _ => (a - (intOf i).toNat))
          case atStart => exact ⟨0, rfl, by omega, hx⟩
          case round =>
          obtain ⟨y, rfl, hy1, hx⟩ := hrel
          by_cases hly : ¬ y < a
          · have hly' : ¬ (y : Int) < (a : Int) := by omega
            go_wp2
            go_roundw
            case rel => exact ⟨x + 1, by go_num, by omega, hx⟩
            case measure => simp [intOf]; omega
          have hly : y < a := by omega
          have hly' : (y : Int) < (a : Int) := by omega
          have hy8 : (y : Int) < 8 := by omega
          obtain ⟨q0, -⟩ := FC.out wr (HX7.out.trans hx)
          obtain ⟨wo2, rfl⟩ : ∃ wo : World, wo = wr := ⟨_, rfl⟩
          go_wp2
          clear q0
          go_loopw [119] (fun i wr => ∃ k : Nat, i = .int .i64 (k : Int) ∧ k ≤ a ∧ Ext W7 wr) (fun i _ => (a - (intOf i).toNat))
          case atStart => exact ⟨0, rfl, by omega, hx⟩
          case round =>
          obtain ⟨k, rfl, hk1, hx⟩ := hrel
          by_cases hlk : k < a
          · have hlk' : (k : Int) < (a : Int) := by omega
            have hk8 : (k : Int) < 8 := by omega
            have ov := G.out.over x y k (by rw [HN.out]; exact hlx') (by rw [HN.out]; exact hly') (by rw [HN.out]; exact hlk')
            have s1 := G.out.size x k (by rw [HN.out]; exact hlx') (by rw [HN.out]; exact hlk')
            have s2 := G.out.size k y (by rw [HN.out]; exact hlk') (by rw [HN.out]; exact hly')
            have g1 := FG.out wr hx x k hlx hlk
            have g2 := FG.out wr hx k y hlk hly
            have g3 := FG.out wr hx x y hlx hly
            generalize gst c x k = X1 at *
            generalize gst c k y = X2 at *
            generalize gst c x y = X3 at *
            by_cases h1 : X1 < 1073741824
            · by_cases h2 : X2 < 1073741824
              · have h3 := ov h1 h2
                have hd3 : decide (X3 > X1 + X2) = false := by simp; omega
                have hsum : IntKind.i64.wrap (X1 + X2) = X1 + X2 := IntWalk.i64_in _ ⟨by omega, by omega⟩
                clear ov h3
                go_wp2
                go_quiet (fail)
                go_wp2
                go_roundw
                case rel => exact ⟨k + 1, by go_num, by omega, hx.drewN _⟩
                case measure => simp [intOf]; omega
              · have hd2 : decide (X2 < 1073741824) = false := by simp; omega
                clear ov
                go_wp2
                go_quiet (fail)
                go_wp2
                go_roundw
                case rel => exact ⟨k + 1, by go_num, by omega, hx.drewN _⟩
                case measure => simp [intOf]; omega
            · have hd1 : decide (X1 < 1073741824) = false := by simp; omega
              clear ov
              go_wp2
              go_quiet (fail)
              go_wp2
              go_roundw
              case rel => exact ⟨k + 1, by go_num, by omega, hx.drewN _⟩
              case measure => simp [intOf]; omega
          · have hlk' : ¬ (k : Int) < (a : Int) := by omega
            obtain ⟨q0, q1, q2, q3⟩ := FC.out wr (HX7.out.trans hx)
            have K := ask_any _ c (x : Int) (y : Int) wr (HC.out.ext (HX7.out.trans hx)) HSZ.out
            rw [G.out.ask x y (by rw [HN.out]; exact hlx') (by rw [HN.out]; exact hly')] at K
            have s1 := G.out.size x y (by rw [HN.out]; exact hlx') (by rw [HN.out]; exact hly')
            have s2 := G.out.size y x (by rw [HN.out]; exact hly') (by rw [HN.out]; exact hlx')
            have F2 : Hid (∀ w', Ext W7 w' → w'.cell? ⟨Bg, x * 8 + y, none⟩ = some (.int .i64 (gst c x y)) ∧ w'.cell? ⟨Bg, y * 8 + x, none⟩ = some (.int .i64 (gst c y x))) := fun w' h => ⟨FG.out w' h x y hlx hly, FG.out w' h y x hly hlx⟩
            generalize gst c x y = X at *
            generalize gst c y x = Y at *
            by_cases hxy : X < 1073741824 ∧ Y < 1073741824
            · rw [if_pos hxy] at K
              obtain ⟨h1, h2⟩ := hxy
              have hK := hid K
              have hneg : IntKind.i64.wrap (-Y) = -Y := IntWalk.i64_in _ ⟨by omega, by omega⟩
              clear K
              go_wp2_with fail
              refine hK.out.mono ?_
              rintro e w9 ⟨rfl, h9⟩
              clear hK q0 q1 q2 q3
              have xo := Ext.alloc (Ext.refl w9) (.cells #[.int .i64 (-Y), .int .i64 X] 59)
              have hx9 := hx.trans (h9.trans xo)
              obtain ⟨g1, g2⟩ := F2.out _ hx9
              go_wp2
              go_quiet (fail)
              go_wp2
              go_roundw
              case rel => exact ⟨y + 1, by go_num, by omega, hx9.drewN _⟩
              case measure => simp [intOf]; omega
            · rw [if_neg hxy] at K
              have hK := hid K
              clear K
              go_wp2_with fail
              refine hK.out.mono ?_
              rintro e w9 ⟨rfl, h9⟩
              clear hK q0 q1 q2 q3
              have xo := Ext.alloc (Ext.refl w9) (.cells #[.int .i64 0, .int .i64 0] 59)
              have hx9 := hx.trans (h9.trans xo)
              obtain ⟨g1, g2⟩ := F2.out _ hx9
              by_cases h1 : X < 1073741824
              · have hd2 : decide (Y < 1073741824) = false := by simp; omega
                clear hxy
                go_wp2
                go_quiet (fail)
                go_wp2
                go_roundw
                case rel => exact ⟨y + 1, by go_num, by omega, hx9.drewN _⟩
                case measure => simp [intOf]; omega
              · have hd1 : decide (X < 1073741824) = false := by simp; omega
                clear hxy
                go_wp2
                go_quiet (fail)
                go_wp2
                go_roundw
                case rel => exact ⟨y + 1, by go_num, by omega, hx9.drewN _⟩
                case measure => simp [intOf]; omega
        · have hlx' : ¬ (x : Int) < (a : Int) := by omega
          obtain ⟨q0, q1, q2, q3⟩ := FC.out wr (HX7.out.trans hx)
          have KL := latest_any _ c wr (HC.out.ext (HX7.out.trans hx)) HSZ.out
          have hea : c.ev.toNat = a := by rw [HN.out]; simp
          rw [hea] at KL
          have hGr := fun w' (h : Ext W7 w') => (HG7.out.ext h).row (c := c) (n := a) (by omega) (by omega)
          have hai8 : (a : Int) ≤ 8 := by omega
          have hai0 : ¬ (a : Int) < 0 := by omega
          rcases latest_gst H0.out HM.out.truth.fine HN.out with ⟨l0, l1, l2⟩ | ⟨l0, l1⟩
          · rw [l0] at KL
            have HL1 := hid l1
            have HL2 := hid l2
            have HGR := hid hGr
            clear l0 l1 l2 hGr hea
            go_wp2_with fail
            refine KL.mono ?_
            clear KL q0 q1 q2 q3
            rintro e w9 ⟨rL, rfl, h9, hL, -⟩
            obtain ⟨A6, c6, rfl, hI6⟩ := hL (by first | rfl | trivial)
            have hx9 := hx.trans h9
            obtain ⟨q0, -⟩ := FC.out w9 (HX7.out.trans hx9)
            have KC := containsI_any 1073741824 (some ⟨Bg, 0, none⟩) 8 (gstRow c a) w9 (HGR.out w9 hx9) (by rw [gstRow_len]; omega)
            rw [gstRow_len, HL1.out] at KC
            have KE := eq_int A6 (some ⟨Bg, 0, none⟩) c6 8 (rowG (gapsM allT c) a) (gstRow c a) w9 hI6 (HGR.out w9 hx9) (by rw [rowG_len]; omega) (by rw [gstRow_len]; omega)
            rw [gstRow_len, rowG_len, HL2.out, beq_self_eq_true] at KE
            have HKE := hid KE
            clear KE hL hI6
            go_wp2_with fail
            refine KC.mono ?_
            clear KC
            rintro e wF ⟨rfl, rfl⟩
            go_wp2_with fail
            refine HKE.out.mono ?_
            rintro e wE ⟨rfl, h10⟩
            have hx8 := hx9.trans h10
            clear HKE q0 h9 h10 hx9 hx
            obtain ⟨W8, hW8⟩ : ∃ W8 : World, W8 = wE := ⟨_, rfl⟩
            rw [← hW8] at hx8 ⊢
            clear hW8
            have hBg8 : Bg < W8.heap.size := by have := hx8.size; omega
            have hD8 : D2 < W8.heap.size := by omega
            have hh8 : HeapR W8 D2 := HH.out.ext (HX7.out.trans hx8)
            have HG8 := hid (HG7.out.ext hx8)
            have E38 := HX35.out.trans (HX7.out.trans hx8)
            have O8 := own_below HOWN.out (HX7.out.trans hx8)
            have FD : Hid (∀ w', Bel D2 W8 w' → Ext W3 w' ∧ Bounds w' AL c.all ∧ ∀ x y : Nat, x < a → y < a → w'.cell? ⟨Bg, x * 8 + y, none⟩ = some (.int .i64 (gst c x y))) := fun w' h => by
              refine ⟨E38.then_bel HD23.out h, Rd.of_own (h.own O8 (fun g hg => by have := (O8.lt g hg).1; have := HD4.out; omega)), fun x y hx hy => ?_⟩
              have := (HG8.out.bel h (by omega)).at_ (a := x) (b := y) (by omega) (by omega)
              rw [tabTo_get c hx hy] at this; exact this
            have HLL : Hid (c.all.length ≤ 52) := checkC_52 H0.out
            have HBO := hid (checkC_bd H0.out)
            have HEV := hid (checkC_ok H0.out).2.2.1
            clear E38 O8
            go_wp2
            refine gaps_loop6 (real := real) HSZ.out H0.out HN.out G.out hN7 hN2 FC3.out HC3.out FD.out hh8 hD8 _ _ _ _ _ _ _ _ _ _ _ _ _ _ _ _ _ _ _ _ _ _ _ _ _ _ _ _ _ _ _ _ _ _ _ _ _ _ _ _ _ _ _ _ _ _ _ _ _ _ _ _ _ _ _ _ _ _ _ _ _ _ _ _ _ _ _ _ _ _ _ _ _ _ _ _ _ _ _ _ _ _ _ _ _ _ _ _ _ _ _ _ _ _ _ _ _ _ _ _ _ _ _ _ _ _ _ _ _ _ _ _ _ _ _ _ _ _ _ _ _ _ _ _ _ _ _ _ _ _ _ _ _ _ _ _ _ _ _ _ _ _ _ _ _ _ _ _ _ _ _ _ _ _ _ _ _ _ _ _ _ _ _ _ _ _ _ _ _ _ _ _ _ _ _ _ _ _ _ _ _ _ _ _ _ _ _ _ _ _ _ _ _ _ _ _ _ _ _ _ _ _ _ _ _ _ _ _ _ _ _ _ _ _ _ _ _ _ _ _ _ _ _ _ _ _ _ _ _ _ _ _ _ _ _ _ _ _ _ _ _ _ _ _ _ _ _ _ _ _ _ _ _ _ _ _ _ _ _ _ _ _ _ _ _ _ _ _ _ _ _ _ _ _ _ _ _ _ _ _ _ _ _ _ _ _ _ _ _ _ _ _ _ _ _ _ _ _ _ _ _ _ _ _ _ _ _ _ _ _ _ _ _ _ _ _ _ _ _ _ _ _ _ _ _ _ _ _ _ _ ?_
            intro u4 u21 u22 u23 u24 u25 u26 u27 u28 u29 u245 u246 u247 u248 u249 u250 u251 u252 u253 u254 u255 u256 u257 u258 u259 u260 u261 u262 u263 u264 u265 u266 u267 u268 u269 u270 u271 u272 u273 u274 u275 u276 u277 u278 u279 u280 u281 u282 u283 u284 u285 u286 u287 u288 u289 u290 u291 u292 u293 u294 u295 u296 u297 u298 u299 u300 u301 u302 u303 u304 u305 u306 u307 u308 u309 u310 u311 u312 u313 u314 u315 u316 u317 u318 u319 u320 u321 u322 u323 u324 u325 u326 u327 u328 u329 u330 u331 u332 wr hb hh
            go_wp2_with fail
            refine (awake_any wr).mono ?_
            rintro e w13 ⟨rfl, hx13⟩
            go_wp2
            go_ret
            exact ⟨rfl, (HX3w.out.trans (FD.out wr hb).1).trans hx13⟩
          · rw [l0] at KL
            have HL1 := hid l1
            have HGR := hid hGr
            clear l0 l1 hGr hea
            go_wp2_with fail
            refine KL.mono ?_
            clear KL q0 q1 q2 q3
            rintro e wE ⟨rL, rfl, h9, -, hL⟩
            obtain rfl := hL (by decide)
            have hx8 := hx.trans h9
            obtain ⟨q0, -⟩ := FC.out wE (HX7.out.trans hx8)
            have KC := containsI_any 1073741824 (some ⟨Bg, 0, none⟩) 8 (gstRow c a) wE (HGR.out wE hx8) (by rw [gstRow_len]; omega)
            rw [gstRow_len, HL1.out] at KC
            clear hL h9 hx
            go_wp2_with fail
            refine KC.mono ?_
            clear KC
            rintro e wF ⟨rfl, rfl⟩
            clear q0
            obtain ⟨W8, hW8⟩ : ∃ W8 : World, W8 = wF := ⟨_, rfl⟩
            rw [← hW8] at hx8 ⊢
            clear hW8
            have hBg8 : Bg < W8.heap.size := by have := hx8.size; omega
            have hD8 : D2 < W8.heap.size := by omega
            have hh8 : HeapR W8 D2 := HH.out.ext (HX7.out.trans hx8)
            have HG8 := hid (HG7.out.ext hx8)
            have E38 := HX35.out.trans (HX7.out.trans hx8)
            have O8 := own_below HOWN.out (HX7.out.trans hx8)
            have FD : Hid (∀ w', Bel D2 W8 w' → Ext W3 w' ∧ Bounds w' AL c.all ∧ ∀ x y : Nat, x < a → y < a → w'.cell? ⟨Bg, x * 8 + y, none⟩ = some (.int .i64 (gst c x y))) := fun w' h => by
              refine ⟨E38.then_bel HD23.out h, Rd.of_own (h.own O8 (fun g hg => by have := (O8.lt g hg).1; have := HD4.out; omega)), fun x y hx hy => ?_⟩
              have := (HG8.out.bel h (by omega)).at_ (a := x) (b := y) (by omega) (by omega)
              rw [tabTo_get c hx hy] at this; exact this
            have HLL : Hid (c.all.length ≤ 52) := checkC_52 H0.out
            have HBO := hid (checkC_bd H0.out)
            have HEV := hid (checkC_ok H0.out).2.2.1
            clear E38 O8
            go_wp2
            refine gaps_loop6 (real := real) HSZ.out H0.out HN.out G.out hN7 hN2 FC3.out HC3.out FD.out hh8 hD8 _ _ _ _ _ _ _ _ _ _ _ _ _ _ _ _ _ _ _ _ _ _ _ _ _ _ _ _ _ _ _ _ _ _ _ _ _ _ _ _ _ _ _ _ _ _ _ _ _ _ _ _ _ _ _ _ _ _ _ _ _ _ _ _ _ _ _ _ _ _ _ _ _ _ _ _ _ _ _ _ _ _ _ _ _ _ _ _ _ _ _ _ _ _ _ _ _ _ _ _ _ _ _ _ _ _ _ _ _ _ _ _ _ _ _ _ _ _ _ _ _ _ _ _ _ _ _ _ _ _ _ _ _ _ _ _ _ _ _ _ _ _ _ _ _ _ _ _ _ _ _ _ _ _ _ _ _ _ _ _ _ _ _ _ _ _ _ _ _ _ _ _ _ _ _ _ _ _ _ _ _ _ _ _ _ _ _ _ _ _ _ _ _ _ _ _ _ _ _ _ _ _ _ _ _ _ _ _ _ _ _ _ _ _ _ _ _ _ _ _ _ _ _ _ _ _ _ _ _ _ _ _ _ _ _ _ _ _ _ _ _ _ _ _ _ _ _ _ _ _ _ _ _ _ _ _ _ _ _ _ _ _ _ _ _ _ _ _ _ _ _ _ _ _ _ _ _ _ _ _ _ _ _ _ _ _ _ _ _ _ _ _ _ _ _ _ _ _ _ _ _ _ _ _ _ _ _ _ _ _ _ _ _ _ _ _ _ _ _ _ _ _ _ _ _ _ _ _ _ _ ?_
            intro u4 u21 u22 u23 u24 u25 u26 u27 u28 u29 u245 u246 u247 u248 u249 u250 u251 u252 u253 u254 u255 u256 u257 u258 u259 u260 u261 u262 u263 u264 u265 u266 u267 u268 u269 u270 u271 u272 u273 u274 u275 u276 u277 u278 u279 u280 u281 u282 u283 u284 u285 u286 u287 u288 u289 u290 u291 u292 u293 u294 u295 u296 u297 u298 u299 u300 u301 u302 u303 u304 u305 u306 u307 u308 u309 u310 u311 u312 u313 u314 u315 u316 u317 u318 u319 u320 u321 u322 u323 u324 u325 u326 u327 u328 u329 u330 u331 u332 wr hb hh
            go_wp2_with fail
            refine (awake_any wr).mono ?_
            rintro e w13 ⟨rfl, hx13⟩
            go_wp2
            go_ret
            exact ⟨rfl, (HX3w.out.trans (FD.out wr hb).1).trans hx13⟩
end Go.Proofs.Ytgnjhaomlbkgcaa
