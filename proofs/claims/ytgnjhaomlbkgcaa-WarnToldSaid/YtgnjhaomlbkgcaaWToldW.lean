/- The walk of WarnTold. Printed by my gen_toldw.py. -/
import Derived.Test.YtgnjhaomlbkgcaaTold
import Derived.Test.YtgnjhaomlbkgcaaWAwake
import Derived.Test.YtgnjhaomlbkgcaaRegEdge
import Derived.Test.YtgnjhaomlbkgcaaWShiftW
namespace Go.Proofs.Ytgnjhaomlbkgcaa
open Go Go.RowKit Go.Shelf

theorem FreshCs.bel {w w' : World} {B D : Nat} {v : Value} {c : Cs} (h : FreshCs w B v c) (hb : Bel D w w') (hD : D < B) : FreshCs w' B v c := by
  obtain ⟨A1, c1, A2, c2, xs, rfl, h1, h2, h3⟩ := h
  refine ⟨A1, c1, A2, c2, xs, rfl, hb.own h1 (fun g hg => by have := (h1.lt g hg).1; omega), hb.own h2 (fun g hg => by have := (h2.lt g hg).1; omega), h3.keep (fun v n ys ho => hb.own ho (fun g hg => by have := (ho.lt g hg).1; omega))⟩
theorem FreshCs.base {w : World} {B B' : Nat} {v : Value} {c : Cs} (h : FreshCs w B v c) (hb : B' ≤ B) : FreshCs w B' v c := by
  obtain ⟨A1, c1, A2, c2, xs, rfl, h1, h2, h3⟩ := h
  exact ⟨A1, c1, A2, c2, xs, rfl, own_base h1 hb, own_base h2 hb, h3.base hb⟩
theorem own_apart2 {w w' : World} {B e size g n : Nat} {T : TypeId} {v : Value} {ys : List Value} (hne : e ≠ T) (hx : BelS (fun i => i = g) w w') (hg : ∃ cur, w.heap[g]? = some (.cells cur T (0, 0))) (h : w.ownsRow B e size v n ys) : w'.ownsRow B e size v n ys := by
  refine hx.own h fun i hi e => ?_
  obtain ⟨A, c, rfl⟩ := own_slice h
  obtain ⟨a, rfl, ha⟩ := slice_own hi
  obtain ⟨i2, hi2⟩ := own_at h (by simp)
  cases hi2
  have e2 : i2 = i := ha
  exact ty_ne (own_ty h) hg hne (e2.trans e)
theorem FreshCs.apart {w w' : World} {B g : Nat} {v : Value} {c : Cs} (h : FreshCs w B v c) (hx : BelS (fun i => i = g) w w') (hg : ∃ cur, w.heap[g]? = some (.cells cur 26 (0, 0))) : FreshCs w' B v c := by
  obtain ⟨A1, c1, A2, c2, xs, rfl, h1, h2, h3⟩ := h
  exact ⟨A1, c1, A2, c2, xs, rfl, own_apart2 (by decide) hx hg h1, own_apart2 (by decide) hx hg h2, h3.keep (fun v n ys ho => own_apart2 (by decide) hx hg ho)⟩
theorem add_sized {c : Cs} (b : Bd) (h1 : c.bs.length ≤ 100) (h2 : c.cl.length ≤ 100) (h3 : ∀ x ∈ c.cl, x.bs.length ≤ 100) : (c.add b).sized :=
  ⟨by unfold Cs.add; simp; omega, by unfold Cs.add; simp; omega, fun x hx => by have := h3 x hx; omega⟩

set_option maxRecDepth 100000 in
set_option maxHeartbeats 8000000 in
theorem toldw_any (A : Option Addr) (l : List Int) (cap : Nat) (A' : Option Addr) (l' : List Int) (cap' : Nat) (w : World) (hA : Bytes w A l) (hl : ∀ x ∈ l, 0 ≤ x ∧ x ≤ 255) (hlt : ∀ a, A = some a → l = [] ∨ a.block < w.heap.size) (hn : l.length ≤ 9223372036854775807)
    (hA' : Bytes w A' l') (hl' : ∀ x ∈ l', 0 ≤ x ∧ x ≤ 255) (hlt' : ∀ a, A' = some a → l' = [] ∨ a.block < w.heap.size) (hn' : l'.length ≤ 9223372036854775807) :
    Calls Try.prog 7 #[.slice A l.length cap, .slice A' l'.length cap'] w fun e w' => e = .returned (.bool true) ∧ Ext w w' := by
  go_enter Try.func7, Try.ntmps7
  go_wp2_with fail
  refine (pile_any A l cap _ hA hl hlt hn).mono ?_
  rintro e w1 ⟨D, rfl, hD, hx1, hh1⟩
  have hs1 := hx1.size
  clear hA hlt hl
  go_wp2_with fail
  refine Calls.mono (made_any D 6 12 2 0 w1 hh1 (by omega) (by omega) (by omega) (by omega) (by omega) (by omega)) ?_
  rintro e w2 ⟨v, c, real, A3, c3, rfl, hc, hI, hM, hb2, hh2⟩
  have x2 := hx1.then_bel (by omega) hb2
  have hsz := hM.sized (by omega) (by omega)
  obtain ⟨A1, c1, A2, c2, rfl, hB, hC⟩ := hc
  have HM := hid hM
  have HSZ := hid hsz
  clear hb2 hh2 hh1 hs1 hD hM hsz hx1
  go_wp2_with fail
  have G2 := heap_alloc_new w2 (.cells #[.int .i64 c.ev, .slice A1 c.bs.length c1, .int .i64 c.wi, .slice A2 c.cl.length c2] 26)
  have xa := Ext.alloc (Ext.refl w2) (.cells #[.int .i64 c.ev, .slice A1 c.bs.length c1, .int .i64 c.wi, .slice A2 c.cl.length c2] 26)
  generalize hW3 : w2.alloc (.cells #[.int .i64 c.ev, .slice A1 c.bs.length c1, .int .i64 c.wi, .slice A2 c.cl.length c2] 26) = W3 at G2 xa ⊢
  clear hW3
  obtain ⟨Bc, hBc⟩ : ∃ Bc, w2.heap.size = Bc := ⟨_, rfl⟩
  rw [hBc] at G2 ⊢
  have hBw : w.heap.size ≤ Bc := by have := x2.size; omega
  clear hBc
  have GC := hid G2
  have hc3 : CsR W3 (.agg #[.int .i64 c.ev, .slice A1 c.bs.length c1, .int .i64 c.wi, .slice A2 c.cl.length c2]) c := ⟨A1, c1, A2, c2, rfl, hB.ext xa, hC.ext xa⟩
  have HC3 := hid hc3
  have HI3 := hid (Rd.ext hI xa)
  have x3 := x2.trans xa
  have hBc3 : Bc < W3.heap.size := (Array.getElem?_eq_some_iff.1 G2).1
  clear G2 hB hC x2 xa hc3 hI
  refine (pile_any A' l' cap' W3 (Rd.ext hA' x3) hl' (fun a ha => (hlt' a ha).imp id (fun h => by have := x3.size; omega)) hn').mono ?_
  rintro e w4 ⟨D2, rfl, hD2, hx4, hh4⟩
  have GC4 := hid ((Below.block hx4 Bc hBc3).trans GC.out)
  have q0 := block_cell (i := 0) GC4.out
  simp only [List.getElem?_toArray, List.getElem?_cons_zero, List.getElem?_cons_succ] at q0
  have hev2 := HM.out.ev2
  have hev6 := HM.out.evm
  clear hA' hlt' hl'
  go_wp2_with fail
  refine (upto_any D2 (c.ev - 1) w4 hh4 (by omega) (by omega)).mono ?_
  rintro e w5 ⟨a, rfl, ha0, ha1, hb5, hh5⟩
  have hx5 : Ext W3 w5 := hx4.then_bel hD2 hb5
  have GC5 := hid ((Below.block hx5 Bc hBc3).trans GC.out)
  have ha2 : a < c.ev := by omega
  clear hx4 hb5 hh4 GC4 q0 ha1
  have q0 := block_cell (i := 0) GC5.out
  simp only [List.getElem?_toArray, List.getElem?_cons_zero, List.getElem?_cons_succ] at q0
  go_wp2
  have FX0 : ∀ w', (Bel D2 w5 w' ∧ HeapR w' D2) → w'.cell? ⟨Bc, 0, none⟩ = some (.int .i64 c.ev) := fun w' hw => hw.1.cell q0 (by show Bc ≠ D2; omega)
  have FX := hid FX0
  have hev6' : c.ev ≤ 6 := by omega
  have hwr : IntKind.i64.wrap (c.ev - 1) = c.ev - 1 := IntWalk.i64_in _ ⟨by omega, by omega⟩
  have hev8 : c.ev ≤ 8 := by omega
  clear FX0 q0 hev6
  refine wp_region_opens (Deal D2) (fun w' => Bel D2 w5 w' ∧ HeapR w' D2) (fun | 5 => some (fun v _ => ∃ x : Int, v = .int .i64 x ∧ 1 ≤ x ∧ x ≤ c.ev - 1) | _ => none) (by kernel_rfl) (by kernel_rfl) (deal_up D2 w5) ?hTa ⟨(Bel.refl D2 w5).drew, hh5.ext (Ext.drew (Ext.refl _))⟩ ?_
  case hTa =>
    intro i R hR
    match i, hR with
    | 5, hR => cases hR; exact fun _ _ _ h _ => h
  refine wpM_val ?ua0 rfl rfl (Deal.refl D2) (fun w' hD => ?ha0) ?na0
  case ha0 =>
    have d0 := FX.out w' hD.1
    go_simp; rfl
  simp only [Act.put, List.setIfInBounds_toArray, List.set_cons_succ, List.set_cons_zero, Nat.reduceAdd]
  refine wpM_val ?ua1 rfl rfl (Deal.refl D2) (fun w' hD => ?ha1) ?na1
  case ha1 =>
    have d0 := FX.out w' hD.1
    go_simp; rfl
  simp only [Act.put, List.setIfInBounds_toArray, List.set_cons_succ, List.set_cons_zero, Nat.reduceAdd]
  refine wpM_val ?ua2 rfl rfl (Deal.refl D2) (fun w' hD => ?ha2) ?na2
  case ha2 =>
    have d0 := FX.out w' hD.1
    go_simp; rfl
  simp only [Act.put, List.setIfInBounds_toArray, List.set_cons_succ, List.set_cons_zero, Nat.reduceAdd]
  refine wpM_val ?ua3 rfl rfl (Deal.refl D2) (fun w' hD => ?ha3) ?na3
  case ha3 =>
    have d0 := FX.out w' hD.1
    go_simp; rfl
  simp only [Act.put, List.setIfInBounds_toArray, List.set_cons_succ, List.set_cons_zero, Nat.reduceAdd]
  refine wpM_val ?ua4 rfl rfl (Deal.refl D2) (fun w' hD => ?ha4) ?na4
  case ha4 =>
    have d0 := FX.out w' hD.1
    go_simp; rfl
  simp only [Act.put, List.setIfInBounds_toArray, List.set_cons_succ, List.set_cons_zero, Nat.reduceAdd]
  refine wpM_op _ rfl rfl (opens_call ?fa5 ?ga5 (fun w' hD => ?ha5) (fun w' hD => ?ca5)) (fun v5 hv5 => ?na5)
  case ha5 => go_simp; constructor <;> rfl
  case ca5 =>
    refine (from_any D2 1 (c.ev - 1) w' hD.1.2 (by omega) (by omega) (by omega) (by omega)).mono ?_
    rintro e w2 ⟨r, rfl, r1, r2, hb, hh⟩
    exact ⟨_, rfl, Deal.mk' hb hh, r, rfl, r1, by omega⟩
  simp only [Act.put, List.setIfInBounds_toArray, List.set_cons_succ, List.set_cons_zero, Nat.reduceAdd]
  obtain ⟨_, -, -, x, rfl, x1, x2⟩ := hv5
  have hsum : IntKind.i64.wrap (a + x) = a + x := IntWalk.i64_in _ ⟨by omega, by omega⟩
  have hrem : (a + x).tmod c.ev = (a + x) % c.ev := Int.tmod_eq_emod_of_nonneg (by omega)
  have hev0 : ¬ c.ev = 0 := by omega
  refine wpM_val ?ua6 rfl rfl (Deal.refl D2) (fun w' hD => ?ha6) ?na6
  case ha6 =>
    have d0 := FX.out w' hD.1
    go_simp; rfl
  simp only [Act.put, List.setIfInBounds_toArray, List.set_cons_succ, List.set_cons_zero, Nat.reduceAdd]
  refine wpM_val ?ua7 rfl rfl (Deal.refl D2) (fun w' hD => ?ha7) ?na7
  case ha7 =>
    have d0 := FX.out w' hD.1
    go_simp; rfl
  simp only [Act.put, List.setIfInBounds_toArray, List.set_cons_succ, List.set_cons_zero, Nat.reduceAdd]
  refine wpM_val ?ua8 rfl rfl (Deal.refl D2) (fun w' hD => ?ha8) ?na8
  case ha8 =>
    have d0 := FX.out w' hD.1
    go_simp; rfl
  simp only [Act.put, List.setIfInBounds_toArray, List.set_cons_succ, List.set_cons_zero, Nat.reduceAdd]
  refine wpM_val ?ua9 rfl rfl (Deal.refl D2) (fun w' hD => ?ha9) ?na9
  case ha9 =>
    have d0 := FX.out w' hD.1
    go_simp; rfl
  simp only [Act.put, List.setIfInBounds_toArray, List.set_cons_succ, List.set_cons_zero, Nat.reduceAdd]
  refine wpM_val ?ua10 rfl rfl (Deal.refl D2) (fun w' hD => ?ha10) ?na10
  case ha10 =>
    have d0 := FX.out w' hD.1
    go_simp; rfl
  simp only [Act.put, List.setIfInBounds_toArray, List.set_cons_succ, List.set_cons_zero, Nat.reduceAdd]
  refine wpM_nil ?_
  intro w9 hw9 hF9
  have hm := mod_off ha0 (show a ≤ c.ev - 1 by omega) x1 x2
  generalize hBb : (a + x) % c.ev = b at *
  clear hBb hsum hrem FX hwr hF9
  obtain ⟨m0, m1, m2⟩ := hm
  obtain ⟨hb9, hh9⟩ := hw9
  have x9 : Ext W3 w9 := hx5.then_bel hD2 hb9
  have GC9 := hid ((Below.block x9 Bc hBc3).trans GC.out)
  obtain ⟨an, rfl⟩ : ∃ k : Nat, a = k := ⟨a.toNat, by omega⟩
  obtain ⟨bn, rfl⟩ : ∃ k : Nat, b = k := ⟨b.toNat, by omega⟩
  have hrl := HM.out.len
  obtain ⟨ra, hra⟩ := get_of_lt real an (by omega)
  obtain ⟨rb, hrb⟩ := get_of_lt real bn (by omega)
  have HRA : Hid (real.getD an 0 = ra) := by unfold Hid; rw [List.getD_eq_getElem?_getD, hra]; rfl
  have HRB : Hid (real.getD bn 0 = rb) := by unfold Hid; rw [List.getD_eq_getElem?_getD, hrb]; rfl
  have ra1 := HM.out.real_ ra (mem_of_get hra)
  have rb1 := HM.out.real_ rb (mem_of_get hrb)
  obtain ⟨b3, off3, rfl, p0⟩ := Ints.at_ (Ints.ext HI3.out x9) hra
  obtain ⟨b3', off3', e3, p1⟩ := Ints.at_ (Ints.ext HI3.out x9) hrb
  cases e3
  have hb33 : b3 < W3.heap.size := World.block_lt_of_cell? W3 _ (by
    obtain ⟨b4, off4, e4, p4⟩ := Ints.at_ HI3.out hra
    cases e4; exact p4)
  have hrl1 : (an : Int) < (real.length : Int) := by omega
  have hrl2 : (bn : Int) < (real.length : Int) := by omega
  have HRL := hid hrl
  have HX9 := hid x9
  have HD9 : Hid (D2 < w9.heap.size) := hh9.lt
  clear hra hrb hrl hb9 x1 x2 hh5 hx5 GC5
  go_wp2
  have q0 := block_cell (i := 0) GC9.out
  have q1 := block_cell (i := 1) GC9.out
  have q2 := block_cell (i := 2) GC9.out
  have q3 := block_cell (i := 3) GC9.out
  simp only [List.getElem?_toArray, List.getElem?_cons_zero, List.getElem?_cons_succ] at q0 q1 q2 q3
  have FX0 : ∀ w', (Bel D2 w9 w' ∧ HeapR w' D2) → w'.cell? ⟨Bc, 0, none⟩ = some (.int .i64 c.ev) ∧ w'.cell? ⟨Bc, 1, none⟩ = some (.slice A1 c.bs.length c1) ∧ w'.cell? ⟨Bc, 2, none⟩ = some (.int .i64 c.wi) ∧ w'.cell? ⟨Bc, 3, none⟩ = some (.slice A2 c.cl.length c2) ∧
      w'.cell? ⟨b3, off3 + an, none⟩ = some (.int .i64 ra) ∧ w'.cell? ⟨b3, off3 + bn, none⟩ = some (.int .i64 rb) ∧ CsR w' (.agg #[.int .i64 c.ev, .slice A1 c.bs.length c1, .int .i64 c.wi, .slice A2 c.cl.length c2]) c :=
    fun w' hw => ⟨hw.1.cell q0 (by show Bc ≠ D2; omega), hw.1.cell q1 (by show Bc ≠ D2; omega), hw.1.cell q2 (by show Bc ≠ D2; omega), hw.1.cell q3 (by show Bc ≠ D2; omega), hw.1.cell p0 (by show b3 ≠ D2; omega), hw.1.cell p1 (by show b3 ≠ D2; omega), HC3.out.ext (HX9.out.then_bel hD2 hw.1)⟩
  have FX := hid FX0
  have hsum1 : IntKind.i64.wrap (rb - ra) = rb - ra := IntWalk.i64_in _ ⟨by omega, by omega⟩
  clear FX0 q0 q1 q2 q3 p0 p1
  refine wp_region_opens_edge (Deal D2) (fun w' => Bel D2 w9 w' ∧ HeapR w' D2) (fun | 13 => some (fun v _ => ∃ x : Int, v = .int .i64 x ∧ -9 ≤ x ∧ x ≤ 9) | 16 => some (fun v w' => ∃ r b', v = .tuple #[r, .int .i64 0] ∧ FreshCs w' w9.heap.size r (c.add b') ∧ bdMade c.ev real (-9) 9 b') | 20 => some (fun v w' => ∃ g, v = .pointer (some ⟨g, 0, none⟩) ∧ w9.heap.size ≤ g ∧ w'.heap[g]? = some (.cells #[.int .i64 0, .slice none 0 0, .int .i64 0, .slice none 0 0] 26 (0, 0))) | _ => none) 21 19 (by kernel_rfl) rfl (by kernel_rfl) ?hQb (by kernel_rfl) (deal_up D2 w9) ?hTb ⟨(Bel.refl D2 w9).drew, hh9.ext (Ext.drew (Ext.refl _))⟩ ?_
  case hQb => exact fun _ _ _ _ _ h => h
  case hTb =>
    intro i R hR
    match i, hR with
    | 13, hR => cases hR; exact fun _ _ _ h _ => h
    | 16, hR => cases hR; exact fun _ _ _ ⟨r, b', h1, h2, h3⟩ k => ⟨r, b', h1, h2.bel k.1 HD9.out, h3⟩
    | 20, hR => cases hR; exact fun _ _ _ ⟨g, h1, h2, h3⟩ k => ⟨g, h1, h2, k.1.heap h3 (by have := HD9.out; omega)⟩
  simp only [addEdge, edged, List.push_toArray, List.cons_append, List.nil_append]
  refine wpM_val ?ub0 rfl rfl (Deal.refl D2) (fun w' hD => ?hb0) ?nb0
  case hb0 =>
    obtain ⟨d0, d1, d2, d3, d4, d5, d6⟩ := FX.out w' hD.1
    go_simp; rfl
  simp only [Act.put, List.setIfInBounds_toArray, List.set_cons_succ, List.set_cons_zero, Nat.reduceAdd]
  refine wpM_val ?ub1 rfl rfl (Deal.refl D2) (fun w' hD => ?hb1) ?nb1
  case hb1 =>
    obtain ⟨d0, d1, d2, d3, d4, d5, d6⟩ := FX.out w' hD.1
    go_simp; rfl
  simp only [Act.put, List.setIfInBounds_toArray, List.set_cons_succ, List.set_cons_zero, Nat.reduceAdd]
  refine wpM_val ?ub2 rfl rfl (Deal.refl D2) (fun w' hD => ?hb2) ?nb2
  case hb2 =>
    obtain ⟨d0, d1, d2, d3, d4, d5, d6⟩ := FX.out w' hD.1
    go_simp; rfl
  simp only [Act.put, List.setIfInBounds_toArray, List.set_cons_succ, List.set_cons_zero, Nat.reduceAdd]
  refine wpM_val ?ub3 rfl rfl (Deal.refl D2) (fun w' hD => ?hb3) ?nb3
  case hb3 =>
    obtain ⟨d0, d1, d2, d3, d4, d5, d6⟩ := FX.out w' hD.1
    go_simp; rfl
  simp only [Act.put, List.setIfInBounds_toArray, List.set_cons_succ, List.set_cons_zero, Nat.reduceAdd]
  refine wpM_val ?ub4 rfl rfl (Deal.refl D2) (fun w' hD => ?hb4) ?nb4
  case hb4 =>
    obtain ⟨d0, d1, d2, d3, d4, d5, d6⟩ := FX.out w' hD.1
    go_simp; rfl
  simp only [Act.put, List.setIfInBounds_toArray, List.set_cons_succ, List.set_cons_zero, Nat.reduceAdd]
  refine wpM_val ?ub5 rfl rfl (Deal.refl D2) (fun w' hD => ?hb5) ?nb5
  case hb5 =>
    obtain ⟨d0, d1, d2, d3, d4, d5, d6⟩ := FX.out w' hD.1
    go_simp; rfl
  simp only [Act.put, List.setIfInBounds_toArray, List.set_cons_succ, List.set_cons_zero, Nat.reduceAdd]
  refine wpM_val ?ub6 rfl rfl (Deal.refl D2) (fun w' hD => ?hb6) ?nb6
  case hb6 =>
    obtain ⟨d0, d1, d2, d3, d4, d5, d6⟩ := FX.out w' hD.1
    go_simp; rfl
  simp only [Act.put, List.setIfInBounds_toArray, List.set_cons_succ, List.set_cons_zero, Nat.reduceAdd]
  refine wpM_val ?ub7 rfl rfl (Deal.refl D2) (fun w' hD => ?hb7) ?nb7
  case hb7 =>
    obtain ⟨d0, d1, d2, d3, d4, d5, d6⟩ := FX.out w' hD.1
    go_simp; rfl
  simp only [Act.put, List.setIfInBounds_toArray, List.set_cons_succ, List.set_cons_zero, Nat.reduceAdd]
  refine wpM_val ?ub8 rfl rfl (Deal.refl D2) (fun w' hD => ?hb8) ?nb8
  case hb8 =>
    obtain ⟨d0, d1, d2, d3, d4, d5, d6⟩ := FX.out w' hD.1
    go_simp; rfl
  simp only [Act.put, List.setIfInBounds_toArray, List.set_cons_succ, List.set_cons_zero, Nat.reduceAdd]
  refine wpM_val ?ub9 rfl rfl (Deal.refl D2) (fun w' hD => ?hb9) ?nb9
  case hb9 =>
    obtain ⟨d0, d1, d2, d3, d4, d5, d6⟩ := FX.out w' hD.1
    go_simp; rfl
  simp only [Act.put, List.setIfInBounds_toArray, List.set_cons_succ, List.set_cons_zero, Nat.reduceAdd]
  refine wpM_val ?ub10 rfl rfl (Deal.refl D2) (fun w' hD => ?hb10) ?nb10
  case hb10 =>
    obtain ⟨d0, d1, d2, d3, d4, d5, d6⟩ := FX.out w' hD.1
    go_simp; rfl
  simp only [Act.put, List.setIfInBounds_toArray, List.set_cons_succ, List.set_cons_zero, Nat.reduceAdd]
  refine wpM_val ?ub11 rfl rfl (Deal.refl D2) (fun w' hD => ?hb11) ?nb11
  case hb11 =>
    obtain ⟨d0, d1, d2, d3, d4, d5, d6⟩ := FX.out w' hD.1
    go_simp; rfl
  simp only [Act.put, List.setIfInBounds_toArray, List.set_cons_succ, List.set_cons_zero, Nat.reduceAdd]
  refine wpM_val ?ub12 rfl rfl (Deal.refl D2) (fun w' hD => ?hb12) ?nb12
  case hb12 =>
    obtain ⟨d0, d1, d2, d3, d4, d5, d6⟩ := FX.out w' hD.1
    go_simp; rfl
  simp only [Act.put, List.setIfInBounds_toArray, List.set_cons_succ, List.set_cons_zero, Nat.reduceAdd]
  refine wpM_op _ rfl rfl (opens_call ?fb13 ?gb13 (fun w' hD => ?hb13) (fun w' hD => ?cb13)) (fun v13 hv13 => ?nb13)
  case hb13 => go_simp; constructor <;> rfl
  case cb13 =>
    refine (from_any D2 (-9) 9 w' hD.1.2 (by omega) (by omega) (by omega) (by omega)).mono ?_
    rintro e w2 ⟨r, rfl, r1, r2, hb, hh⟩
    exact ⟨_, rfl, Deal.mk' hb hh, r, rfl, r1, by omega⟩
  simp only [Act.put, List.setIfInBounds_toArray, List.set_cons_succ, List.set_cons_zero, Nat.reduceAdd]
  obtain ⟨_, -, -, x, rfl, x1, x2⟩ := hv13
  have hsum2 : IntKind.i64.wrap (rb - ra + x) = rb - ra + x := IntWalk.i64_in _ ⟨by omega, by omega⟩
  have HBD : Hid (bdMade c.ev real (-9) 9 ⟨an, bn, rb - ra + x⟩) := ⟨⟨by show (0:Int) ≤ an; omega, ha2⟩, ⟨by show (0:Int) ≤ bn; omega, m1⟩, fun e => m2 e.symm, by show real.getD (Int.toNat (bn : Int)) 0 - real.getD (Int.toNat (an : Int)) 0 + -9 ≤ rb - ra + x; rw [Int.toNat_natCast, Int.toNat_natCast, HRA.out, HRB.out]; omega, by show rb - ra + x ≤ real.getD (Int.toNat (bn : Int)) 0 - real.getD (Int.toNat (an : Int)) 0 + 9; rw [Int.toNat_natCast, Int.toNat_natCast, HRA.out, HRB.out]; omega⟩
  have HT0 : Hid (toldBC c ⟨an, bn, rb - ra + x⟩ = 0) := add_told HM.out (by decide) (by decide) (by decide) (by decide) (by decide) (by decide) (by decide) HBD.out
  refine wpM_val ?ub14 rfl rfl (Deal.refl D2) (fun w' hD => ?hb14) ?nb14
  case hb14 =>
    obtain ⟨d0, d1, d2, d3, d4, d5, d6⟩ := FX.out w' hD.1
    go_simp; rfl
  simp only [Act.put, List.setIfInBounds_toArray, List.set_cons_succ, List.set_cons_zero, Nat.reduceAdd]
  refine wpM_val ?ub15 rfl rfl (Deal.refl D2) (fun w' hD => ?hb15) ?nb15
  case hb15 =>
    obtain ⟨d0, d1, d2, d3, d4, d5, d6⟩ := FX.out w' hD.1
    go_simp; rfl
  simp only [Act.put, List.setIfInBounds_toArray, List.set_cons_succ, List.set_cons_zero, Nat.reduceAdd]
  refine wpM_op _ rfl rfl (opens_call ?fb16 ?gb16 (fun w' hD => ?hb16) (fun w' hD => ?cb16)) (fun v16 hv16 => ?nb16)
  case hb16 => go_simp; constructor <;> rfl
  case cb16 =>
    obtain ⟨d0, d1, d2, d3, d4, d5, d6⟩ := FX.out w' hD.1
    refine (toldb_any _ c ⟨an, bn, rb - ra + x⟩ w' d6 HSZ.out).mono ?_
    rintro e w2 ⟨r, rfl, hx, -, hr⟩
    exact ⟨_, rfl, Deal.ext hx, r, ⟨an, bn, rb - ra + x⟩, by rw [HT0.out], (hr HT0.out).base hD.1.1.size, HBD.out⟩
  simp only [Act.put, List.setIfInBounds_toArray, List.set_cons_succ, List.set_cons_zero, Nat.reduceAdd]
  obtain ⟨_, -, -, r, b', rfl, -⟩ := hv16
  refine wpM_val ?ub17 rfl rfl (Deal.refl D2) (fun w' hD => ?hb17) ?nb17
  case hb17 =>
    obtain ⟨d0, d1, d2, d3, d4, d5, d6⟩ := FX.out w' hD.1
    go_simp; rfl
  simp only [Act.put, List.setIfInBounds_toArray, List.set_cons_succ, List.set_cons_zero, Nat.reduceAdd]
  refine wpM_val ?ub18 rfl rfl (Deal.refl D2) (fun w' hD => ?hb18) ?nb18
  case hb18 =>
    obtain ⟨d0, d1, d2, d3, d4, d5, d6⟩ := FX.out w' hD.1
    go_simp; rfl
  simp only [Act.put, List.setIfInBounds_toArray, List.set_cons_succ, List.set_cons_zero, Nat.reduceAdd]
  refine wpM_val ?ub19 rfl rfl (Deal.refl D2) (fun w' hD => ?hb19) ?nb19
  case hb19 =>
    obtain ⟨d0, d1, d2, d3, d4, d5, d6⟩ := FX.out w' hD.1
    go_simp; rfl
  simp only [Act.put, List.setIfInBounds_toArray, List.set_cons_succ, List.set_cons_zero, Nat.reduceAdd]
  refine wpM_op _ rfl rfl (opens_val (fun w' hD => ?hb20)) (fun v20 hv20 => ?nb20)
  case hb20 =>
    refine ⟨.pointer (some ⟨w'.heap.size, 0, none⟩), w'.alloc (.cells #[.int .i64 0, .slice none 0 0, .int .i64 0, .slice none 0 0] 26), ?_, Deal.ext (Ext.alloc (Ext.refl _) _), _, rfl, hD.1.1.size, heap_alloc_new _ _⟩
    go_simp
  obtain ⟨_, -, -, g, rfl, -⟩ := hv20
  simp only [Act.put, List.setIfInBounds_toArray, List.set_cons_succ, List.set_cons_zero, Nat.reduceAdd]
  refine wpM_nil ?_
  intro w9 hw9 hF9
  obtain ⟨-, r1, b1, e1, hfr, hbd⟩ := hF9 16
  obtain ⟨-, g1, e2, hg1, hgz⟩ := hF9 20
  obtain rfl : g = g1 := congrArg (fun v => match v with | .pointer (some a) => a.block | _ => 0) e2
  obtain rfl : r = r1 := congrArg (fun v => match v with | .tuple #[x, _] => x | _ => .int .i64 0) e1
  have HBD1 := hid hbd
  clear HBD HT0 hsum1 hsum2 e1 e2 hF9 hbd
  obtain ⟨u, hu⟩ : ∃ u, c.add b1 = u := ⟨_, rfl⟩
  have HU := hid hu
  rw [hu] at hfr
  obtain ⟨U1, m1, U2, m2, xs, rfl, o1, o2, hcl⟩ := hfr
  have HFR := hid (show FreshCs w9 _ _ u from ⟨U1, m1, U2, m2, xs, rfl, o1, o2, hcl⟩)
  have x10 := HX9.out.then_bel hD2 hw9.1
  have z0 := block_cell (i := 0) hgz
  have z1 := block_cell (i := 1) hgz
  have z2 := block_cell (i := 2) hgz
  have z3 := block_cell (i := 3) hgz
  have f0 := block_free (i := 0) hgz
  have f1 := block_free (i := 1) hgz
  have f2 := block_free (i := 2) hgz
  have f3 := block_free (i := 3) hgz
  simp only [List.getElem?_toArray, List.getElem?_cons_zero, List.getElem?_cons_succ] at z0 z1 z2 z3
  have HGZ := hid hgz
  have hsz9 := HX9.out.size
  have hgW : W3.heap.size ≤ g := by omega
  have GC10 := (Below.block x10 Bc hBc3).trans GC.out
  have q0 := block_cell (i := 0) GC10
  have q1 := block_cell (i := 1) GC10
  have q2 := block_cell (i := 2) GC10
  have q3 := block_cell (i := 3) GC10
  simp only [List.getElem?_toArray, List.getElem?_cons_zero, List.getElem?_cons_succ] at q0 q1 q2 q3
  have hgBc : Bc ≠ g := by omega
  clear hgz hu o1 o2 hcl FX hsz9 GC10
  simp only [List.drop_succ_cons, List.drop_zero]
  go_wp2_with fail
  have xs10 : BelS (fun i => i = g) w9 ((((w9.setCell ⟨g, 0, none⟩ (.int .i64 u.ev)).setCell ⟨g, 1, none⟩ (.slice U1 u.bs.length m1)).setCell ⟨g, 2, none⟩ (.int .i64 u.wi)).setCell ⟨g, 3, none⟩ (.slice U2 u.cl.length m2)) := ((((BelS.refl _ w9).setCell (S := fun i => i = g) ⟨g, 0, none⟩ _ rfl).setCell ⟨g, 1, none⟩ _ rfl).setCell ⟨g, 2, none⟩ _ rfl).setCell ⟨g, 3, none⟩ _ rfl
  have GU : ((((w9.setCell ⟨g, 0, none⟩ (.int .i64 u.ev)).setCell ⟨g, 1, none⟩ (.slice U1 u.bs.length m1)).setCell ⟨g, 2, none⟩ (.int .i64 u.wi)).setCell ⟨g, 3, none⟩ (.slice U2 u.cl.length m2)).heap[g]? = some (.cells #[.int .i64 u.ev, .slice U1 u.bs.length m1, .int .i64 u.wi, .slice U2 u.cl.length m2] 26 (0, 0)) := by
    have h := heap_set (heap_set (heap_set (heap_set HGZ.out (i := 0) (.int .i64 u.ev)) (i := 1) (.slice U1 u.bs.length m1)) (i := 2) (.int .i64 u.wi)) (i := 3) (.slice U2 u.cl.length m2)
    simpa using h
  have HCU := hid (HFR.out.apart xs10 ⟨_, HGZ.out⟩).toR
  have X10 : Ext W3 ((((w9.setCell ⟨g, 0, none⟩ (.int .i64 u.ev)).setCell ⟨g, 1, none⟩ (.slice U1 u.bs.length m1)).setCell ⟨g, 2, none⟩ (.int .i64 u.wi)).setCell ⟨g, 3, none⟩ (.slice U2 u.cl.length m2)) := (((x10.setCell hgW _).setCell hgW _).setCell hgW _).setCell hgW _
  generalize hW10 : ((((w9.setCell ⟨g, 0, none⟩ (.int .i64 u.ev)).setCell ⟨g, 1, none⟩ (.slice U1 u.bs.length m1)).setCell ⟨g, 2, none⟩ (.int .i64 u.wi)).setCell ⟨g, 3, none⟩ (.slice U2 u.cl.length m2)) = W10 at xs10 GU HCU X10 ⊢
  clear hW10 xs10 x10 q0 q1 q2 q3 HFR HGZ z0 z1 z2 z3 f0 f1 f2 f3 hw9 hh9
  have hgW10 : g < W10.heap.size := (Array.getElem?_eq_some_iff.1 GU).1
  have hM0 : MadeOK 6 12 2 0 c real := HM.out
  have HC0 : Hid (checkC c = 0) := hM0.check (by decide) (by decide) (by decide) (by decide) (by decide)
  have HU0 : Hid (checkC u = 0) := by unfold Hid; rw [← HU.out]; exact add_check hM0 (by decide) (by decide) (by decide) (by decide) (by decide) (by decide) (by decide) HBD1.out
  have HTR := hid hM0.truth
  have HTC : Hid (toldC c = 0) := toldC_truth HC0.out hM0.truth
  have HFC : Hid (Fine c.all) := told_fine HTC.out
  have HSU : Hid u.sized := by
    unfold Hid; rw [← HU.out]
    exact add_sized b1 (by have := hM0.bsl; omega) (by have := hM0.cll; omega) (fun x hx => by have := (hM0.cl x hx).2.1; omega)
  have HEV : Hid (u.ev = c.ev) := by unfold Hid; rw [← HU.out]; rfl
  have HSUB : Hid (∀ x ∈ c.all, x ∈ u.all) := fun x hx => by rw [← HU.out]; exact add_all_mem.2 (.inl hx)
  have HX10 := hid X10
  have HX0 := hid (x3.trans X10)
  have HGU := hid GU
  clear hM0 X10 GU x3 x9
  refine Calls.mono (order_any _ c W10 (HC3.out.ext HX10.out) HSZ.out) ?_
  rintro e w11 ⟨r11, rfl, hx11, -, hr11⟩
  obtain ⟨A5, k5, rfl, o5⟩ := hr11 HTC.out
  have HP5 := hid (show Pairs w11 A5 (orderL c) from Rd.of_own o5)
  obtain ⟨L1, hL1⟩ : ∃ L1, orderL c = L1 := ⟨_, rfl⟩
  have HL1 := hid hL1
  rw [hL1] at HP5 ⊢
  rw [HTC.out]
  clear hr11 o5 hL1
  have GU11 := (Below.block hx11 _ hgW10).trans HGU.out
  have y0 := block_cell (i := 0) GU11
  have y1 := block_cell (i := 1) GU11
  have y2 := block_cell (i := 2) GU11
  have y3 := block_cell (i := 3) GU11
  simp only [List.getElem?_toArray, List.getElem?_cons_zero, List.getElem?_cons_succ] at y0 y1 y2 y3
  have HX11 := hid hx11
  clear GU11 hx11
  go_wp2_with fail
  refine Calls.mono (order_any _ u w11 (HCU.out.ext HX11.out) HSU.out) ?_
  rintro e w12 ⟨r12, rfl, hx12, hr12a, hr12b⟩
  clear y0 y1 y2 y3
  obtain ⟨T, hT⟩ : ∃ T, toldC u = T := ⟨_, rfl⟩
  have HT := hid hT
  have HTT := told_ok HU0.out
  rw [hT] at hr12a hr12b HTT ⊢
  clear hT
  have HX12 := hid hx12
  have X12 := HX0.out.trans (HX11.out.trans hx12)
  rcases HTT with rfl | rfl
  case inr =>
    obtain rfl := hr12a (by decide)
    clear hr12a hr12b
    go_wp2_with fail
    refine Calls.mono (awake_any w12) ?_
    rintro e w13 ⟨rfl, hx13⟩
    go_wp2
    go_ret
    exact ⟨rfl, X12.trans hx13⟩
  obtain ⟨A6, k6, rfl, o6⟩ := hr12b rfl
  have HP6 := hid (show Pairs w12 A6 (orderL u) from Rd.of_own o6)
  obtain ⟨L2, hL2⟩ : ∃ L2, orderL u = L2 := ⟨_, rfl⟩
  have HL2 := hid hL2
  rw [hL2] at HP6 ⊢
  have HFU : Hid (Fine u.all) := told_fine HT.out
  have hn1 : L1.length ≤ 64 := by rw [← HL1.out]; exact orderL_len hev8
  have hn2 : L2.length ≤ 64 := by rw [← HL2.out]; exact orderL_len (by rw [HEV.out]; exact hev8)
  have HSUBL : Hid (∀ p ∈ L1, p ∈ L2 ∧ ∃ x y : Nat, p = ((x : Int), (y : Int)) ∧ (x : Int) < c.ev ∧ (y : Int) < c.ev ∧ real.getD x 0 < real.getD y 0) := fun p hp => by
    have hp1 : p ∈ orderL c := by rw [HL1.out]; exact hp
    obtain ⟨x, y, hx, hy, _, rfl⟩ := (mem_orderL (by omega)).1 hp1
    have h2 := order_real HC0.out HTR.out hp1
    exact ⟨by rw [← HL2.out]; exact order_sub HC0.out HU0.out HFC.out HFU.out HEV.out HSUB.out hp1, x, y, rfl, hx, hy, by simpa using h2⟩
  have HP5 := hid (HP5.out.ext hx12)
  have HXX := hid (HX10.out.trans (HX11.out.trans HX12.out))
  have HX0 := hid X12
  clear o6 hL2 hr12a hr12b hx12 X12
  go_wp2
  go_loopw [100] (fun i wr => ∃ k : Nat, i = .int .i64 (k : Int) ∧ k ≤ L1.length ∧ Ext w12 wr) (fun i _ => L1.length - (intOf i).toNat)
  case atStart => exact ⟨0, rfl, Nat.zero_le _, Ext.refl _⟩
  case round =>
    obtain ⟨k, rfl, hk, hx⟩ := hrel
    by_cases hlt : k < L1.length
    · have hlt' : (k : Int) < (L1.length : Int) := by omega
      obtain ⟨p, hp⟩ := get_of_lt L1 k hlt
      obtain ⟨hm, x, y, rfl, hxl, hyl, hrr⟩ := HSUBL.out p (mem_of_get hp)
      obtain ⟨b7, off7, rfl, k0, k1⟩ := (HP5.out.ext hx).at_ hp
      have hrl := HRL.out
      obtain ⟨rx, hrx⟩ := get_of_lt real x (by omega)
      obtain ⟨ry, hry⟩ := get_of_lt real y (by omega)
      rw [List.getD_eq_getElem?_getD, List.getD_eq_getElem?_getD, hrx, hry] at hrr
      simp only [Option.getD_some] at hrr
      obtain ⟨b8, off8, e8, p0⟩ := Ints.at_ (Ints.ext HI3.out (HXX.out.trans hx)) hrx
      cases e8
      obtain ⟨b8, off8, e8, p1⟩ := Ints.at_ (Ints.ext HI3.out (HXX.out.trans hx)) hry
      cases e8
      have HMEM : Hid (memP ((x : Int), (y : Int)) L2 = true) := memP_iff.2 hm
      have hxr : (x : Int) < (real.length : Int) := by omega
      have hyr : (y : Int) < (real.length : Int) := by omega
      clear hp hrl hrx hry hm
      go_wp2
      have xo := Ext.alloc (Ext.refl wr) (.cells #[.int .i64 (x : Int), .int .i64 (y : Int)] 92)
      have n0 : (wr.alloc (.cells #[.int .i64 (x : Int), .int .i64 (y : Int)] 92)).cell? ⟨wr.heap.size, 0, none⟩ = some (.int .i64 (x : Int)) := by simp [go_sem]
      have n1 : (wr.alloc (.cells #[.int .i64 (x : Int), .int .i64 (y : Int)] 92)).cell? ⟨wr.heap.size, 1, none⟩ = some (.int .i64 (y : Int)) := by simp [go_sem]
      generalize hWo : wr.alloc (.cells #[.int .i64 (x : Int), .int .i64 (y : Int)] 92) = Wo at xo n0 n1 ⊢
      clear hWo k0 k1
      have FX0 : ∀ w', Ext Wo w' → w'.cell? ⟨wr.heap.size, 0, none⟩ = some (.int .i64 (x : Int)) ∧ w'.cell? ⟨wr.heap.size, 1, none⟩ = some (.int .i64 (y : Int)) ∧ w'.cell? ⟨b3, off3 + x, none⟩ = some (.int .i64 rx) ∧ w'.cell? ⟨b3, off3 + y, none⟩ = some (.int .i64 ry) ∧ Pairs w' A6 L2 :=
        fun w' h => ⟨h.cell n0, h.cell n1, h.cell (xo.cell p0), h.cell (xo.cell p1), HP6.out.ext (hx.trans (xo.trans h))⟩
      have FX := hid FX0
      have hnge : ¬ ry ≤ rx := by omega
      clear FX0 n0 n1 p0 p1
      refine wp_region_opens Ext (fun w' => Ext Wo w') (fun | 2 => some (fun v _ => v = .bool true) | _ => none) (by kernel_rfl) (by kernel_rfl) (fun _ _ h k => h.trans k) ?hTc (Ext.drew (Ext.refl Wo)) ?_
      case hTc =>
        intro i R hR
        match i, hR with
        | 2, hR => cases hR; exact fun _ _ _ h _ => h
      refine wpM_val ?uc0 rfl rfl Ext.refl (fun w' hD => ?hc0) ?nc0
      case hc0 =>
        obtain ⟨d0, d1, d2, d3, d4⟩ := FX.out w' hD.1
        go_simp; rfl
      simp only [Act.put, List.setIfInBounds_toArray, List.set_cons_succ, List.set_cons_zero, Nat.reduceAdd]
      refine wpM_val ?uc1 rfl rfl Ext.refl (fun w' hD => ?hc1) ?nc1
      case hc1 =>
        obtain ⟨d0, d1, d2, d3, d4⟩ := FX.out w' hD.1
        go_simp; rfl
      simp only [Act.put, List.setIfInBounds_toArray, List.set_cons_succ, List.set_cons_zero, Nat.reduceAdd]
      refine wpM_op _ rfl rfl (opens_call ?fc2 ?gc2 (fun w' hD => ?hc2) (fun w' hD => ?cc2)) (fun v2 hv2 => ?nc2)
      case hc2 => go_simp; constructor <;> rfl
      case cc2 =>
        obtain ⟨d0, d1, d2, d3, d4⟩ := FX.out w' hD.1
        refine (containsP_any A6 k6 L2 ((x : Int), (y : Int)) w' d4 (by omega)).mono ?_
        rintro e w2 ⟨rfl, hb⟩
        exact ⟨_, rfl, hb, by rw [HMEM.out]⟩
      obtain ⟨_, -, -, rfl⟩ := hv2
      simp only [Act.put, List.setIfInBounds_toArray, List.set_cons_succ, List.set_cons_zero, Nat.reduceAdd]
      refine wpM_val ?uc3 rfl rfl Ext.refl (fun w' hD => ?hc3) ?nc3
      case hc3 =>
        obtain ⟨d0, d1, d2, d3, d4⟩ := FX.out w' hD.1
        go_simp; rfl
      simp only [Act.put, List.setIfInBounds_toArray, List.set_cons_succ, List.set_cons_zero, Nat.reduceAdd]
      refine wpM_val ?uc4 rfl rfl Ext.refl (fun w' hD => ?hc4) ?nc4
      case hc4 =>
        obtain ⟨d0, d1, d2, d3, d4⟩ := FX.out w' hD.1
        go_simp; rfl
      simp only [Act.put, List.setIfInBounds_toArray, List.set_cons_succ, List.set_cons_zero, Nat.reduceAdd]
      refine wpM_val ?uc5 rfl rfl Ext.refl (fun w' hD => ?hc5) ?nc5
      case hc5 =>
        obtain ⟨d0, d1, d2, d3, d4⟩ := FX.out w' hD.1
        go_simp; rfl
      simp only [Act.put, List.setIfInBounds_toArray, List.set_cons_succ, List.set_cons_zero, Nat.reduceAdd]
      refine wpM_val ?uc6 rfl rfl Ext.refl (fun w' hD => ?hc6) ?nc6
      case hc6 =>
        obtain ⟨d0, d1, d2, d3, d4⟩ := FX.out w' hD.1
        go_simp; rfl
      simp only [Act.put, List.setIfInBounds_toArray, List.set_cons_succ, List.set_cons_zero, Nat.reduceAdd]
      refine wpM_val ?uc7 rfl rfl Ext.refl (fun w' hD => ?hc7) ?nc7
      case hc7 =>
        obtain ⟨d0, d1, d2, d3, d4⟩ := FX.out w' hD.1
        go_simp; rfl
      simp only [Act.put, List.setIfInBounds_toArray, List.set_cons_succ, List.set_cons_zero, Nat.reduceAdd]
      refine wpM_val ?uc8 rfl rfl Ext.refl (fun w' hD => ?hc8) ?nc8
      case hc8 =>
        obtain ⟨d0, d1, d2, d3, d4⟩ := FX.out w' hD.1
        go_simp; rfl
      simp only [Act.put, List.setIfInBounds_toArray, List.set_cons_succ, List.set_cons_zero, Nat.reduceAdd]
      refine wpM_val ?uc9 rfl rfl Ext.refl (fun w' hD => ?hc9) ?nc9
      case hc9 =>
        obtain ⟨d0, d1, d2, d3, d4⟩ := FX.out w' hD.1
        go_simp; rfl
      simp only [Act.put, List.setIfInBounds_toArray, List.set_cons_succ, List.set_cons_zero, Nat.reduceAdd]
      refine wpM_val ?uc10 rfl rfl Ext.refl (fun w' hD => ?hc10) ?nc10
      case hc10 =>
        obtain ⟨d0, d1, d2, d3, d4⟩ := FX.out w' hD.1
        go_simp; rfl
      simp only [Act.put, List.setIfInBounds_toArray, List.set_cons_succ, List.set_cons_zero, Nat.reduceAdd]
      refine wpM_val ?uc11 rfl rfl Ext.refl (fun w' hD => ?hc11) ?nc11
      case hc11 =>
        obtain ⟨d0, d1, d2, d3, d4⟩ := FX.out w' hD.1
        go_simp; rfl
      simp only [Act.put, List.setIfInBounds_toArray, List.set_cons_succ, List.set_cons_zero, Nat.reduceAdd]
      refine wpM_val ?uc12 rfl rfl Ext.refl (fun w' hD => ?hc12) ?nc12
      case hc12 =>
        obtain ⟨d0, d1, d2, d3, d4⟩ := FX.out w' hD.1
        go_simp; rfl
      simp only [Act.put, List.setIfInBounds_toArray, List.set_cons_succ, List.set_cons_zero, Nat.reduceAdd]
      refine wpM_val ?uc13 rfl rfl Ext.refl (fun w' hD => ?hc13) ?nc13
      case hc13 =>
        obtain ⟨d0, d1, d2, d3, d4⟩ := FX.out w' hD.1
        go_simp; rfl
      simp only [Act.put, List.setIfInBounds_toArray, List.set_cons_succ, List.set_cons_zero, Nat.reduceAdd]
      refine wpM_val ?uc14 rfl rfl Ext.refl (fun w' hD => ?hc14) ?nc14
      case hc14 =>
        obtain ⟨d0, d1, d2, d3, d4⟩ := FX.out w' hD.1
        go_simp; rfl
      simp only [Act.put, List.setIfInBounds_toArray, List.set_cons_succ, List.set_cons_zero, Nat.reduceAdd]
      refine wpM_val ?uc15 rfl rfl Ext.refl (fun w' hD => ?hc15) ?nc15
      case hc15 =>
        obtain ⟨d0, d1, d2, d3, d4⟩ := FX.out w' hD.1
        go_simp; rfl
      simp only [Act.put, List.setIfInBounds_toArray, List.set_cons_succ, List.set_cons_zero, Nat.reduceAdd]
      refine wpM_val ?uc16 rfl rfl Ext.refl (fun w' hD => ?hc16) ?nc16
      case hc16 =>
        obtain ⟨d0, d1, d2, d3, d4⟩ := FX.out w' hD.1
        go_simp; rfl
      simp only [Act.put, List.setIfInBounds_toArray, List.set_cons_succ, List.set_cons_zero, Nat.reduceAdd]
      refine wpM_nil ?_
      intro w9 hw9 hF9
      have hx9 : Ext w12 w9 := hx.trans (xo.trans hw9)
      clear hF9 FX xo hw9 hx
      go_wp2
      go_roundw
      case rel => exact ⟨k + 1, by go_num, by omega, hx9⟩
      case measure => simp [intOf]; omega
    have hlt' : ¬ (k : Int) < (L1.length : Int) := by omega
    have FC0 : ∀ w', Ext w12 w' → w'.cell? ⟨Bc, 0, none⟩ = some (.int .i64 c.ev) ∧ w'.cell? ⟨Bc, 1, none⟩ = some (.slice A1 c.bs.length c1) ∧ w'.cell? ⟨Bc, 2, none⟩ = some (.int .i64 c.wi) ∧ w'.cell? ⟨Bc, 3, none⟩ = some (.slice A2 c.cl.length c2) := fun w' h => by
      have G := (Below.block (HXX.out.trans h) Bc hBc3).trans GC.out
      exact ⟨block_cell (i := 0) G, block_cell (i := 1) G, block_cell (i := 2) G, block_cell (i := 3) G⟩
    have FC := hid FC0
    have FU0 : ∀ w', Ext w12 w' → w'.cell? ⟨g, 0, none⟩ = some (.int .i64 u.ev) ∧ w'.cell? ⟨g, 1, none⟩ = some (.slice U1 u.bs.length m1) ∧ w'.cell? ⟨g, 2, none⟩ = some (.int .i64 u.wi) ∧ w'.cell? ⟨g, 3, none⟩ = some (.slice U2 u.cl.length m2) := fun w' h => by
      have G := (Below.block (HX11.out.trans (HX12.out.trans h)) g hgW10).trans HGU.out
      exact ⟨block_cell (i := 0) G, block_cell (i := 1) G, block_cell (i := 2) G, block_cell (i := 3) G⟩
    have FU := hid FU0
    have HCC : Hid (∀ w', Ext w12 w' → CsR w' (.agg #[.int .i64 c.ev, .slice A1 c.bs.length c1, .int .i64 c.wi, .slice A2 c.cl.length c2]) c) := fun w' h => HC3.out.ext (HXX.out.trans h)
    have HCU2 : Hid (∀ w', Ext w12 w' → CsR w' (.agg #[.int .i64 u.ev, .slice U1 u.bs.length m1, .int .i64 u.wi, .slice U2 u.cl.length m2]) u) := fun w' h => HCU.out.ext (HX11.out.trans (HX12.out.trans h))
    clear FC0 FU0
    obtain ⟨q0, -⟩ := FC.out wr hx
    go_wp2
    clear q0
    go_loopw [124] (fun i wr => ∃ x : Nat, i = .int .i64 (x : Int) ∧ (x : Int) ≤ c.ev ∧ Ext w12 wr) (fun i _ => (c.ev - intOf i).toNat)
    case atStart => exact ⟨0, rfl, by omega, hx⟩
    case round =>
      obtain ⟨x, rfl, hxk, hx⟩ := hrel
      by_cases hlt1 : (x : Int) < c.ev
      · obtain ⟨q0, -⟩ := FC.out wr hx
        obtain ⟨wo, rfl⟩ : ∃ wo : World, wo = wr := ⟨_, rfl⟩
        go_wp2
        clear q0
        go_loopw [129] (fun i wr => ∃ y : Nat, i = .int .i64 (y : Int) ∧ (y : Int) ≤ c.ev ∧ Ext w12 wr) (fun i _ => (c.ev - intOf i).toNat)
        case atStart => exact ⟨0, rfl, by omega, hx⟩
        case round =>
        obtain ⟨y, rfl, hyk, hx⟩ := hrel
        by_cases hlt2 : ¬ (y : Int) < c.ev
        · go_wp2
          go_roundw
          case rel => exact ⟨x + 1, by go_num, by omega, hx⟩
          case measure => simp [intOf]; omega
        have hlt2 : (y : Int) < c.ev := by omega
        obtain ⟨be, bu, keep, gap, yes, yesu⟩ := told_law (real := real) HC0.out HU0.out HFC.out HFU.out HEV.out HSUB.out hev8 hlt1 hlt2
        rw [HL1.out] at yes
        rw [HL2.out] at yesu
        have K1 := gap_any _ c (x : Int) (y : Int) wr (HCC.out wr hx) HSZ.out
        have K2 := fun w' h => gap_any _ u (x : Int) (y : Int) w' (HCU2.out w' h) HSU.out
        have K3 := fun w' h => before_any _ c (x : Int) (y : Int) w' (HCC.out w' h) HSZ.out
        have K4 := fun w' h => before_any _ u (x : Int) (y : Int) w' (HCU2.out w' h) HSU.out
        rw [be] at K3
        rw [bu] at K4
        generalize (gapOf c (x : Int) (y : Int)).1 = N at K1 gap
        generalize (gapOf c (x : Int) (y : Int)).2 = E at K1 gap
        generalize (gapOf u (x : Int) (y : Int)).1 = M at K2 gap
        generalize (gapOf u (x : Int) (y : Int)).2 = F at K2 gap
        generalize (beforeOf c (x : Int) (y : Int)).1 = V at K3 keep yes
        generalize (beforeOf u (x : Int) (y : Int)).1 = W at K4 keep yesu
        have H1 := hid K1
        have H2 := hid K2
        have H3 := hid K3
        have H4 := hid K4
        have YES := hid yes
        have YESU := hid yesu
        have KEEP := hid keep
        have GAP := hid gap
        clear K1 K2 K3 K4 be bu yes yesu keep gap
        obtain ⟨q0, q1, q2, q3⟩ := FC.out wr hx
        go_wp2_with fail
        refine Calls.mono H1.out ?_
        rintro e w13 ⟨rfl, h13⟩
        have hx13 := hx.trans h13
        clear q0 q1 q2 q3
        obtain ⟨q0, q1, q2, q3⟩ := FU.out w13 hx13
        go_wp2_with fail
        refine Calls.mono (H2.out w13 hx13) ?_
        rintro e w14 ⟨rfl, h14⟩
        have hx14 := hx13.trans h14
        clear q0 q1 q2 q3
        obtain ⟨q0, q1, q2, q3⟩ := FC.out w14 hx14
        go_wp2_with fail
        refine Calls.mono (H3.out w14 hx14) ?_
        rintro e w15 ⟨rfl, h15⟩
        have hx15 := hx14.trans h15
        clear q0 q1 q2 q3
        obtain ⟨q0, q1, q2, q3⟩ := FU.out w15 hx15
        go_wp2_with fail
        refine Calls.mono (H4.out w15 hx15) ?_
        rintro e w16 ⟨rfl, h16⟩
        have hx16 := hx15.trans h16
        have yes := YES.out
        have yesu := YESU.out
        have keep := KEEP.out
        have gap := GAP.out
        clear q0 q1 q2 q3 H1 H2 H3 H4 h13 h14 h15 h16 hx hx13 hx14 hx15
        by_cases hv : V = 0
        · subst hv
          by_cases he : E = 0
          · subst he
            obtain ⟨hf, hmn⟩ := gap rfl
            subst hf
            have hmn' : ¬ N < M := by omega
            by_cases hw : W = 1
            · subst hw
              have HB1 : Hid (memP ((x : Int), (y : Int)) L1 = false) := by unfold Hid; rw [Bool.eq_false_iff]; intro h; have := yes.2 (memP_iff.1 h); omega
              have HB2 : Hid (memP ((x : Int), (y : Int)) L2 = true) := memP_iff.2 (yesu.1 rfl)
              clear yes yesu keep gap
              go_wp2_with fail
              refine Calls.mono (containsP_any A5 k5 L1 ((x : Int), (y : Int)) w16 (HP5.out.ext hx16) (by omega)) ?_
              rintro e w17 ⟨rfl, hx17⟩
              rw [HB1.out]
              go_wp2_with fail
              refine Calls.mono (containsP_any A6 k6 L2 ((x : Int), (y : Int)) w17 (HP6.out.ext (hx16.trans hx17)) (by omega)) ?_
              rintro e w18 ⟨rfl, hx18⟩
              rw [HB2.out]
              go_wp2
              go_roundw
              case rel => exact ⟨y + 1, by go_num, by omega, hx16.trans (hx17.trans hx18)⟩
              case measure => simp [intOf]; omega
            · have hwb : (W == 1) = false := by simpa using hw
              have HB1 : Hid (memP ((x : Int), (y : Int)) L1 = false) := by unfold Hid; rw [Bool.eq_false_iff]; intro h; have := yes.2 (memP_iff.1 h); omega
              have HB2 : Hid (memP ((x : Int), (y : Int)) L2 = false) := by unfold Hid; rw [Bool.eq_false_iff]; intro h; exact hw (yesu.2 (memP_iff.1 h))
              clear yes yesu keep gap
              go_wp2_with fail
              refine Calls.mono (containsP_any A5 k5 L1 ((x : Int), (y : Int)) w16 (HP5.out.ext hx16) (by omega)) ?_
              rintro e w17 ⟨rfl, hx17⟩
              rw [HB1.out]
              go_wp2_with fail
              refine Calls.mono (containsP_any A6 k6 L2 ((x : Int), (y : Int)) w17 (HP6.out.ext (hx16.trans hx17)) (by omega)) ?_
              rintro e w18 ⟨rfl, hx18⟩
              rw [HB2.out]
              go_wp2
              go_roundw
              case rel => exact ⟨y + 1, by go_num, by omega, hx16.trans (hx17.trans hx18)⟩
              case measure => simp [intOf]; omega
          · have heb : (E == 0) = false := by simpa using he
            by_cases hw : W = 1
            · subst hw
              have HB1 : Hid (memP ((x : Int), (y : Int)) L1 = false) := by unfold Hid; rw [Bool.eq_false_iff]; intro h; have := yes.2 (memP_iff.1 h); omega
              have HB2 : Hid (memP ((x : Int), (y : Int)) L2 = true) := memP_iff.2 (yesu.1 rfl)
              clear yes yesu keep gap
              go_wp2_with fail
              refine Calls.mono (containsP_any A5 k5 L1 ((x : Int), (y : Int)) w16 (HP5.out.ext hx16) (by omega)) ?_
              rintro e w17 ⟨rfl, hx17⟩
              rw [HB1.out]
              go_wp2_with fail
              refine Calls.mono (containsP_any A6 k6 L2 ((x : Int), (y : Int)) w17 (HP6.out.ext (hx16.trans hx17)) (by omega)) ?_
              rintro e w18 ⟨rfl, hx18⟩
              rw [HB2.out]
              go_wp2
              go_roundw
              case rel => exact ⟨y + 1, by go_num, by omega, hx16.trans (hx17.trans hx18)⟩
              case measure => simp [intOf]; omega
            · have hwb : (W == 1) = false := by simpa using hw
              have HB1 : Hid (memP ((x : Int), (y : Int)) L1 = false) := by unfold Hid; rw [Bool.eq_false_iff]; intro h; have := yes.2 (memP_iff.1 h); omega
              have HB2 : Hid (memP ((x : Int), (y : Int)) L2 = false) := by unfold Hid; rw [Bool.eq_false_iff]; intro h; exact hw (yesu.2 (memP_iff.1 h))
              clear yes yesu keep gap
              go_wp2_with fail
              refine Calls.mono (containsP_any A5 k5 L1 ((x : Int), (y : Int)) w16 (HP5.out.ext hx16) (by omega)) ?_
              rintro e w17 ⟨rfl, hx17⟩
              rw [HB1.out]
              go_wp2_with fail
              refine Calls.mono (containsP_any A6 k6 L2 ((x : Int), (y : Int)) w17 (HP6.out.ext (hx16.trans hx17)) (by omega)) ?_
              rintro e w18 ⟨rfl, hx18⟩
              rw [HB2.out]
              go_wp2
              go_roundw
              case rel => exact ⟨y + 1, by go_num, by omega, hx16.trans (hx17.trans hx18)⟩
              case measure => simp [intOf]; omega
        · obtain rfl := keep hv
          have hvb : (W == 0) = false := by simpa using hv
          by_cases he : E = 0
          · subst he
            obtain ⟨hf, hmn⟩ := gap rfl
            subst hf
            have hmn' : ¬ N < M := by omega
            by_cases hv1 : W = 1
            · subst hv1
              have HB1 : Hid (memP ((x : Int), (y : Int)) L1 = true) := memP_iff.2 (yes.1 rfl)
              have HB2 : Hid (memP ((x : Int), (y : Int)) L2 = true) := memP_iff.2 (yesu.1 rfl)
              clear yes yesu keep gap
              go_wp2_with fail
              refine Calls.mono (containsP_any A5 k5 L1 ((x : Int), (y : Int)) w16 (HP5.out.ext hx16) (by omega)) ?_
              rintro e w17 ⟨rfl, hx17⟩
              rw [HB1.out]
              go_wp2_with fail
              refine Calls.mono (containsP_any A6 k6 L2 ((x : Int), (y : Int)) w17 (HP6.out.ext (hx16.trans hx17)) (by omega)) ?_
              rintro e w18 ⟨rfl, hx18⟩
              rw [HB2.out]
              go_wp2
              go_roundw
              case rel => exact ⟨y + 1, by go_num, by omega, hx16.trans (hx17.trans hx18)⟩
              case measure => simp [intOf]; omega
            · have hvb1 : (W == 1) = false := by simpa using hv1
              have HB1 : Hid (memP ((x : Int), (y : Int)) L1 = false) := by unfold Hid; rw [Bool.eq_false_iff]; intro h; exact hv1 (yes.2 (memP_iff.1 h))
              have HB2 : Hid (memP ((x : Int), (y : Int)) L2 = false) := by unfold Hid; rw [Bool.eq_false_iff]; intro h; exact hv1 (yesu.2 (memP_iff.1 h))
              clear yes yesu keep gap
              go_wp2_with fail
              refine Calls.mono (containsP_any A5 k5 L1 ((x : Int), (y : Int)) w16 (HP5.out.ext hx16) (by omega)) ?_
              rintro e w17 ⟨rfl, hx17⟩
              rw [HB1.out]
              go_wp2_with fail
              refine Calls.mono (containsP_any A6 k6 L2 ((x : Int), (y : Int)) w17 (HP6.out.ext (hx16.trans hx17)) (by omega)) ?_
              rintro e w18 ⟨rfl, hx18⟩
              rw [HB2.out]
              go_wp2
              go_roundw
              case rel => exact ⟨y + 1, by go_num, by omega, hx16.trans (hx17.trans hx18)⟩
              case measure => simp [intOf]; omega
          · have heb : (E == 0) = false := by simpa using he
            by_cases hv1 : W = 1
            · subst hv1
              have HB1 : Hid (memP ((x : Int), (y : Int)) L1 = true) := memP_iff.2 (yes.1 rfl)
              have HB2 : Hid (memP ((x : Int), (y : Int)) L2 = true) := memP_iff.2 (yesu.1 rfl)
              clear yes yesu keep gap
              go_wp2_with fail
              refine Calls.mono (containsP_any A5 k5 L1 ((x : Int), (y : Int)) w16 (HP5.out.ext hx16) (by omega)) ?_
              rintro e w17 ⟨rfl, hx17⟩
              rw [HB1.out]
              go_wp2_with fail
              refine Calls.mono (containsP_any A6 k6 L2 ((x : Int), (y : Int)) w17 (HP6.out.ext (hx16.trans hx17)) (by omega)) ?_
              rintro e w18 ⟨rfl, hx18⟩
              rw [HB2.out]
              go_wp2
              go_roundw
              case rel => exact ⟨y + 1, by go_num, by omega, hx16.trans (hx17.trans hx18)⟩
              case measure => simp [intOf]; omega
            · have hvb1 : (W == 1) = false := by simpa using hv1
              have HB1 : Hid (memP ((x : Int), (y : Int)) L1 = false) := by unfold Hid; rw [Bool.eq_false_iff]; intro h; exact hv1 (yes.2 (memP_iff.1 h))
              have HB2 : Hid (memP ((x : Int), (y : Int)) L2 = false) := by unfold Hid; rw [Bool.eq_false_iff]; intro h; exact hv1 (yesu.2 (memP_iff.1 h))
              clear yes yesu keep gap
              go_wp2_with fail
              refine Calls.mono (containsP_any A5 k5 L1 ((x : Int), (y : Int)) w16 (HP5.out.ext hx16) (by omega)) ?_
              rintro e w17 ⟨rfl, hx17⟩
              rw [HB1.out]
              go_wp2_with fail
              refine Calls.mono (containsP_any A6 k6 L2 ((x : Int), (y : Int)) w17 (HP6.out.ext (hx16.trans hx17)) (by omega)) ?_
              rintro e w18 ⟨rfl, hx18⟩
              rw [HB2.out]
              go_wp2
              go_roundw
              case rel => exact ⟨y + 1, by go_num, by omega, hx16.trans (hx17.trans hx18)⟩
              case measure => simp [intOf]; omega
      · go_wp2_with fail
        refine Calls.mono (awake_any wr) ?_
        rintro e w13 ⟨rfl, hx13⟩
        go_wp2
        go_ret
        exact ⟨rfl, HX0.out.trans (hx.trans hx13)⟩
end Go.Proofs.Ytgnjhaomlbkgcaa
