/- slices.SortFunc at pairs of weighings: what the kit's shelf says of it, in one contract. Printed by my gen_bsort.py. The walk of boil's proof. Printed by my gen_bprf.py. -/
import Derived.Shelf.SlSortCmp.NoneTotal
import Derived.Test.YtjnobdcbbboeeaaGreatH7
import Derived.Test.YtjnobdcbbboeeaaGreatH6
namespace Go.Proofs.YtjnobdcbbboeeaaGreat
open Go Go.RowKit Go.Shelf Go.Sort
set_option linter.unusedVariables false
set_option linter.unusedSimpArgs false

def sortRen : Ren where
  f := fun | 6 => 68 | 14 => 91 | 15 => 55 | 20 => 100 | 21 => 101 | 22 => 102 | 23 => 103 | 24 => 104 | 25 => 105 | 26 => 106 | 27 => 107 | 28 => 85 | 29 => 86 | 46 => 110 | 47 => 96 | 48 => 97 | 49 => 111 | 50 => 112 | 57 => 113 | n => n
  t := fun | 0 => 0 | 3 => 3 | 4 => 4 | 5 => 5 | 9 => 9 | 22 => 35 | 24 => 43 | 25 => 117 | 39 => 101 | 45 => 123 | 46 => 124 | 50 => 128 | 53 => 70 | 55 => 132 | 66 => 137 | 70 => 141 | 76 => 149 | 77 => 150 | n => n
  g := fun n => n
theorem sort_lays : SlLaysF0.n6 Tryz.prog sortRen where
  mixed := by kernel_rfl
  f6 := ⟨"slices.SortFunc[[]laurel/boil.Pair,laurel/boil.Pair]", by decide, by kernel_rfl⟩
  f14 := ⟨"slices.pdqsortCmpFunc[laurel/boil.Pair]", by decide, by kernel_rfl⟩
  f15 := by kernel_rfl
  f20 := ⟨"slices.insertionSortCmpFunc[laurel/boil.Pair]", by decide, by kernel_rfl⟩
  f21 := ⟨"slices.heapSortCmpFunc[laurel/boil.Pair]", by decide, by kernel_rfl⟩
  f22 := ⟨"slices.breakPatternsCmpFunc[laurel/boil.Pair]", by decide, by kernel_rfl⟩
  f23 := ⟨"slices.choosePivotCmpFunc[laurel/boil.Pair]", by decide, by kernel_rfl⟩
  f24 := ⟨"slices.reverseRangeCmpFunc[laurel/boil.Pair]", by decide, by kernel_rfl⟩
  f25 := ⟨"slices.partialInsertionSortCmpFunc[laurel/boil.Pair]", by decide, by kernel_rfl⟩
  f26 := ⟨"slices.partitionEqualCmpFunc[laurel/boil.Pair]", by decide, by kernel_rfl⟩
  f27 := ⟨"slices.partitionCmpFunc[laurel/boil.Pair]", by decide, by kernel_rfl⟩
  f28 := by kernel_rfl
  f29 := by kernel_rfl
  f46 := ⟨"slices.siftDownCmpFunc[laurel/boil.Pair]", by decide, by kernel_rfl⟩
  f47 := by kernel_rfl
  f48 := by kernel_rfl
  f49 := ⟨"slices.medianAdjacentCmpFunc[laurel/boil.Pair]", by decide, by kernel_rfl⟩
  f50 := ⟨"slices.medianCmpFunc[laurel/boil.Pair]", by decide, by kernel_rfl⟩
  f57 := ⟨"slices.order2CmpFunc[laurel/boil.Pair]", by decide, by kernel_rfl⟩
  t0 := by kernel_rfl
  a0 := fun w => by kernel_rfl
  z0 := fun w => by kernel_rfl
  v0 := fun w => by kernel_rfl
  t3 := by kernel_rfl
  a3 := fun w => by kernel_rfl
  z3 := fun w => by kernel_rfl
  v3 := fun w => by kernel_rfl
  t4 := by kernel_rfl
  a4 := fun w => by kernel_rfl
  z4 := fun w => by kernel_rfl
  v4 := fun w => by kernel_rfl
  t5 := by kernel_rfl
  a5 := fun w => by kernel_rfl
  z5 := fun w => by kernel_rfl
  v5 := fun w => by kernel_rfl
  t9 := by kernel_rfl
  a9 := fun w => by kernel_rfl
  z9 := fun w => by kernel_rfl
  v9 := fun w => by kernel_rfl
  t22 := by kernel_rfl
  a22 := fun w => by kernel_rfl
  z22 := fun w => by kernel_rfl
  v22 := fun w => by kernel_rfl
  t25 := by kernel_rfl
  a25 := fun w => by kernel_rfl
  z25 := fun w => by kernel_rfl
  v25 := fun w => by kernel_rfl
  t39 := by kernel_rfl
  a39 := fun w => by kernel_rfl
  z39 := fun w => by kernel_rfl
  v39 := fun w => by kernel_rfl
  t45 := by kernel_rfl
  a45 := fun w => by kernel_rfl
  z45 := fun w => by kernel_rfl
  v45 := fun w => by kernel_rfl
  t46 := by kernel_rfl
  a46 := fun w => by kernel_rfl
  z46 := fun w => by kernel_rfl
  v46 := fun w => by kernel_rfl
  t50 := by kernel_rfl
  a50 := fun w => by kernel_rfl
  z50 := fun w => by kernel_rfl
  v50 := fun w => by kernel_rfl
  t53 := by kernel_rfl
  a53 := fun w => by kernel_rfl
  z53 := fun w => by kernel_rfl
  v53 := fun w => by kernel_rfl
  t55 := by kernel_rfl
  a55 := fun w => by kernel_rfl
  z55 := fun w => by kernel_rfl
  v55 := fun w => by kernel_rfl
  t66 := by kernel_rfl
  a66 := fun w => by kernel_rfl
  z66 := fun w => by kernel_rfl
  v66 := fun w => by kernel_rfl
  t70 := by kernel_rfl
  a70 := fun w => by kernel_rfl
  z70 := fun w => by kernel_rfl
  v70 := fun w => by kernel_rfl
  t76 := by kernel_rfl
  a76 := fun w => by kernel_rfl
  z76 := fun w => by kernel_rfl
  v76 := fun w => by kernel_rfl
  t77 := by kernel_rfl
  a77 := fun w => by kernel_rfl
  z77 := fun w => by kernel_rfl
  v77 := fun w => by kernel_rfl
/-- A pair of weighings. -/
abbrev PrW := { p : Nat × Nat // p.1 < 14 ∧ p.2 < 14 }
instance : Inhabited PrW := ⟨⟨(0, 0), by decide⟩⟩
def encPr (p : PrW) : List Value := [.int .i64 (p.1.1 : Int), .int .i64 (p.1.2 : Int)]
def cmpPr (p q : PrW) : Int := (p.1.1 : Int) - (q.1.1 : Int)
theorem cmpPr_lt (p q : PrW) : ltOf cmpPr p q = decide (p.1.1 < q.1.1) := by
  unfold ltOf cmpPr; rw [decide_eq_decide]; omega
theorem swoPr : SWO (ltOf cmpPr) where
  irrefl x := by rw [cmpPr_lt]; simp
  trans x y z h1 h2 := by rw [cmpPr_lt] at *; simp at *; omega
  ntrans x y z h1 h2 := by rw [cmpPr_lt] at *; simp at *; omega
set_option maxHeartbeats 1000000 in
theorem cmpPr_any (x y : PrW) (W : World) : Calls Tryz.prog 69 #[.agg #[.int .i64 (x.1.1 : Int), .int .i64 (x.1.2 : Int)], .agg #[.int .i64 (y.1.1 : Int), .int .i64 (y.1.2 : Int)]] W fun e w' => e = .returned (.int .i64 (cmpPr x y)) ∧ ∃ q os', w' = grow (W.drewN q) os' := by
  have hw : Hid ((x.1.1 : Int) - (y.1.1 : Int) = cmpPr x y) := rfl
  have hx1 := x.2.1
  have hy1 := y.2.1
  generalize cmpPr x y = r at hw ⊢
  go_enter Tryz.func69, Tryz.ntmps69
  go_wp2
  go_ret
  exact ⟨congrArg (fun r => Ending.returned (Value.int .i64 r)) hw.out, 0, _, by rw [alloc_eq_grow, alloc_eq_grow, grow_grow]; rfl⟩
theorem sort_bel (d : Array PrW) (os : Array Obj) (w : World) (g m : Nat) : Bel g w (sortWorldK encPr 2 w g 0 m d os) := by
  unfold sortWorldK putRowK putRow mapBlock Sort.ahead grow
  refine ⟨⟨rfl, rfl, rfl, by simp, fun k hk => absurd hk (Nat.not_lt_zero _)⟩, fun k hk hn => ?_⟩
  simp only
  rw [Array.getElem?_append_left (by simpa using hk), Array.getElem?_modify, if_neg (fun e => hn e.symm)]
theorem holds_pr {w : World} {g : Nat} {d : Array PrW} (hf : ∀ j, w.frozen? ⟨g, j, none⟩ = false) (hc : ∀ i, i < d.size → w.cell? ⟨g, i * 2, none⟩ = some (.int .i64 ((d[i]!).1.1 : Int)) ∧ w.cell? ⟨g, i * 2 + 1, none⟩ = some (.int .i64 ((d[i]!).1.2 : Int))) : HoldsK encPr 2 w g 0 d := by
  intro j hj
  rw [size_flatK] at hj
  rw [get_flatK _ _ _ _ hj]
  obtain ⟨h1, h2⟩ := hc (j / 2) (by omega)
  refine ⟨?_, hf _⟩
  rcases Nat.mod_two_eq_zero_or_one j with e | e
  · rw [show 0 + j = j / 2 * 2 by omega, h1, e]; rfl
  · rw [show 0 + j = j / 2 * 2 + 1 by omega, h2, e]; rfl
theorem isAgg_pr (w : World) : (isAgg 43).run Tryz.prog w = .ok true w := by kernel_rfl
theorem sizeOf_pr (w : World) : (Go.sizeOf 43).run Tryz.prog w = .ok 2 w := by kernel_rfl
/-- The sort turns the row's own block alone. -/
theorem sort_any (g cap : Nat) (d : Array PrW) (w : World) (hg : g < w.heap.size) (hs : d.size ≤ 14) (hf : ∀ j, w.frozen? ⟨g, j, none⟩ = false)
    (hc : ∀ i, i < d.size → w.cell? ⟨g, i * 2, none⟩ = some (.int .i64 ((d[i]!).1.1 : Int)) ∧ w.cell? ⟨g, i * 2 + 1, none⟩ = some (.int .i64 ((d[i]!).1.2 : Int))) :
    Calls Tryz.prog 68 #[.slice (some ⟨g, 0, none⟩) d.size cap, .func (.func 69) #[] #[]] w fun e w' => e = .returned (.tuple #[]) ∧ Bel g w w' := by
  have eg : ∀ args w, (callFunc 69 args).run Tryz.prog w = .ok (.enter 69 args) w := enters_of Tryz.func69 (by kernel_rfl) rfl
  have h := AnyQ.slices_SortFunc sort_lays 2 isAgg_pr sizeOf_pr encPr (fun _ => rfl) (fun x v hv => by simp [encPr] at hv; rcases hv with rfl | rfl <;> rfl) cmpPr swoPr 69 #[] g 0 cap d w eg (fun _ _ _ _ x y => cmpPr_any x y _) (holds_pr hf hc) hg (by omega)
  refine Calls.mono h ?_
  rintro e w' ⟨rfl, d', n, os, -, -, rfl⟩
  exact ⟨rfl, sort_bel d' os w g n⟩
/-- .. and nothing where there is none. -/
theorem sort_none (p : Option Addr) (cap : Nat) (fv : Value) (w : World) : Calls Tryz.prog 68 #[.slice p 0 cap, fv] w fun e w' => e = .returned (.tuple #[]) ∧ w' = w :=
  AnyF.slices_SortFunc_none sort_lays p cap fv w
end Go.Proofs.YtjnobdcbbboeeaaGreat

namespace Go.Proofs.YtjnobdcbbboeeaaGreat
open Go Go.RowKit Go.Shelf
set_option linter.unusedVariables false
set_option linter.unusedSimpArgs false
attribute [local go_sem] Oper.semAt_some

theorem BI.congr {w : World} {O : Nat} {f f' : Nat → Int} (h : BI w O f) (he : ∀ b, b < 14 → f b = f' b) : BI w O f' := by
  unfold BI icell14 at *
  rw [h, List.map_congr_left (g := fun i => Value.int .i64 (f' i)) fun i hi => by rw [he i (List.mem_range.1 hi)]]
theorem info14 : (Tryz.prog.info? 112).map (·.size) = some 14 := by kernel_rfl
/-- The pairs of which the lower one lies below k. -/
def prL (ov : Nat → Int) (k : Nat) : List (Int × Int) := ((List.range k).filter fun b => decide (0 ≤ ov b)).map fun b => (ov b, (b : Int))
theorem prL_next (ov : Nat → Int) (k : Nat) : prL ov (k + 1) = prL ov k ++ if 0 ≤ ov k then [(ov k, (k : Int))] else [] := by
  unfold prL
  rw [List.range_succ, List.filter_append, List.map_append]
  by_cases h : 0 ≤ ov k <;> simp [h]
theorem prL_len (ov : Nat → Int) (k : Nat) : (prL ov k).length ≤ k := by
  unfold prL
  rw [List.length_map]
  exact Nat.le_trans (List.length_filter_le _ _) (by simp)
theorem filt_stop {p : Nat → Bool} {n : Nat} (hp : ∀ b, p b = true → b < n) : ∀ m, (List.range (n + m)).filter p = (List.range n).filter p
  | 0 => rfl
  | m + 1 => by
    rw [← Nat.add_assoc, List.range_succ, List.filter_append, filt_stop hp m]
    have : p (n + m) = false := by
      cases h : p (n + m) with
      | false => rfl
      | true => have := hp _ h; omega
    simp [this]
theorem idx14 (V : Array Value) (k : Nat) (v : Value) (w : World) (hk : k < 14) (hv : V[k]? = some v) : (Instr.index 112 (.agg V) (.int .i64 (k : Int))).run Tryz.prog w = .ok v w := by
  have hu : Tryz.prog.underlying 112 = some (.array 14 3) := Tryz.underlying112
  have hagg : (isAgg 3).run Tryz.prog w = .ok false w := by kernel_rfl
  have h2 : (k : Int) < 14 := by omega
  simp [Instr.index, Sem.run_bind, run_underlying hu w, part, hagg, hv, h2, asIntOf]
  intro h; omega
theorem elem_pr : ElemOK Tryz.prog 35 43 2 16 := by
  refine ⟨Tryz.underlying35, ?_, by decide, by decide⟩
  have h : ((Tryz.prog.info? 43).bind fun i => i.zero.map fun z => (i.size, i.bytes, z.cells.size)) = some (2, 16, 2) := by kernel_rfl
  cases hi : Tryz.prog.info? 43 with
  | none => rw [hi] at h; cases h
  | some i =>
    rw [hi] at h
    cases hz : i.zero with
    | none => simp [hz] at h
    | some z => simp [hz] at h; exact ⟨i, z, rfl, hz, h.1, h.2.1, h.2.2⟩

theorem sort_own (ov : Nat → Int) (base : Nat) (w : World) (A : Option Addr) (n c : Nat) (hln : (prL ov 14).length = n) (hov : ∀ b, ov b < 14) (ho : w.ownsRow base 43 2 (.slice A n c) n (layPr.rows (prL ov 14))) :
    Calls Tryz.prog 68 #[.slice A n c, .func (.func 69) #[] #[]] w fun e w' => e = .returned (.tuple #[]) ∧ BelS (fun k => base ≤ k) w w' := by
  rcases ho.2 with ⟨e, hn0⟩ | ⟨g, cap, cur, e, hg, hblk, h1, h2, h3, h4⟩
  · cases e
    refine (sort_none none 0 _ w).mono ?_
    rintro e w' ⟨rfl, rfl⟩
    exact ⟨rfl, BelS.refl _ _⟩
  · cases e
    obtain ⟨d, hd⟩ : ∃ d : Array PrW, (((List.range 14).filter fun b => decide (0 ≤ ov b)).map fun b => (⟨((ov b).toNat % 14, b % 14), Nat.mod_lt _ (by decide), Nat.mod_lt _ (by decide)⟩ : PrW)).toArray = d := ⟨_, rfl⟩
    have hds : d.size = n := by rw [← hd, ← hln]; simp [prL]
    have hfz : ∀ j, w.frozen? ⟨g, j, none⟩ = false := fun j => by simp [World.frozen?, hblk]
    have hn14 : n ≤ 14 := by rw [← hln]; exact prL_len ov 14
    have hcell : ∀ j u, (layPr.rows (prL ov 14))[j]? = some u → w.cell? ⟨g, j, none⟩ = some u := fun j u hu => by
      rw [cell_of_row w g j _ _ _ hblk]
      rw [← h4, List.getElem?_take] at hu
      split at hu
      · rw [← hu]; simp
      · cases hu
    have hc : ∀ i, i < d.size → w.cell? ⟨g, i * 2, none⟩ = some (.int .i64 ((d[i]!).1.1 : Int)) ∧ w.cell? ⟨g, i * 2 + 1, none⟩ = some (.int .i64 ((d[i]!).1.2 : Int)) := fun i hi => by
      have hlf : i < ((List.range 14).filter fun b => decide (0 ≤ ov b)).length := by rw [← hd] at hi; simpa using hi
      obtain ⟨b, hb⟩ : ∃ b, ((List.range 14).filter fun b => decide (0 ≤ ov b))[i]? = some b := ⟨_, List.getElem?_eq_getElem hlf⟩
      have hbm := List.mem_of_getElem? hb
      rw [List.mem_filter, List.mem_range, decide_eq_true_eq] at hbm
      have hp : (prL ov 14)[i]? = some (ov b, (b : Int)) := by unfold prL; rw [List.getElem?_map, hb]; rfl
      have hdi : d[i]! = (⟨((ov b).toNat % 14, b % 14), Nat.mod_lt _ (by decide), Nat.mod_lt _ (by decide)⟩ : PrW) := by
        rw [← hd]
        simp [List.getElem!_eq_getElem?_getD, hb]
      have := hov b
      have e1 : (((ov b).toNat % 14 : Nat) : Int) = ov b := by omega
      have e2 : ((b % 14 : Nat) : Int) = (b : Int) := by omega
      rw [hdi]
      simp only [e1, e2]
      exact ⟨hcell _ _ (layPr.rows_get _ i _ hp 0 _ rfl), hcell _ _ (layPr.rows_get _ i _ hp 1 _ rfl)⟩
    have h := sort_any g c d w (Array.getElem?_eq_some_iff.1 hblk).1 (by omega) hfz hc
    rw [hds] at h
    refine h.mono ?_
    rintro e w' ⟨rfl, hb⟩
    exact ⟨rfl, hb.belS hg⟩
def fillI (k : Nat) : Nat → Int := fun j => if j < k then -1 else 0
set_option maxRecDepth 100000 in
set_option maxHeartbeats 4000000 in
theorem proof_any (h : Hs) (D : Nat) (A : Option Addr) (c : Nat) (w : World) (hn : h.ws.length ≤ 14) (hd : Dsk w D A c h (claG h)) :
    Calls Tryz.prog 30 #[.pointer (some ⟨D, 0, none⟩)] w fun e w' => (∃ A' c', e = .returned (.slice A' (sizeH h) c')) ∧ Ext w w' := by
  obtain ⟨N, hN⟩ : ∃ N : Nat, h.ws.length = N := ⟨_, rfl⟩
  have HN := hid hN
  have e0 := hd.ws
  rw [hN] at e0 hn
  have HD := hid hd
  have hDl := hd.lt
  clear hN hd
  go_enter Tryz.func30, Tryz.ntmps30
  go_wp2_with fail
  obtain ⟨W1, hW1⟩ : ∃ W1, (w.alloc (.cells #[.pointer (some ⟨D, 0, none⟩)] 73)).alloc (.cells #[.int .i64 0, .int .i64 0, .int .i64 0, .int .i64 0, .int .i64 0, .int .i64 0, .int .i64 0, .int .i64 0, .int .i64 0, .int .i64 0, .int .i64 0, .int .i64 0, .int .i64 0, .int .i64 0] 112) = W1 := ⟨_, rfl⟩
  have hx1 : Ext w W1 := by rw [← hW1]; exact ((Ext.refl _).alloc _).alloc _
  have hbo : BI W1 (w.heap.size + 1) (fun _ => 0) := by
    have h := heap_alloc_new (w.alloc (.cells #[.pointer (some ⟨D, 0, none⟩)] 73)) (.cells (icell14 fun _ => 0).toArray 112)
    rw [World.size_alloc] at h
    rw [← hW1]; exact h
  have hbd : W1.cell? ⟨w.heap.size, 0, none⟩ = some (.pointer (some ⟨D, 0, none⟩)) := by rw [← hW1]; simp [go_sem]
  have hz1 : w.heap.size + 2 ≤ W1.heap.size := by rw [← hW1]; simp
  have hd1 := HD.out.ext hx1
  try rw [hW1]
  clear hW1 e0
  go_loopw [11] (fun i wr => ∃ kk : Nat, kk ≤ 14 ∧ i = .int .i64 kk ∧ BI wr (w.heap.size + 1) (fillI kk) ∧ BelS (fun k => k = w.heap.size + 1) W1 wr) (fun i _ => 14 - (intOf i).toNat)
  case atStart => exact ⟨0, Nat.zero_le _, rfl, hbo.congr (fun b _ => by simp [fillI]), BelS.refl _ _⟩
  case round =>
    obtain ⟨kk, hk, rfl, hb, hbl⟩ := hrel
    by_cases hlt : kk < 14
    · have hlt' : (kk : Int) < 14 := by omega
      have c0 := hb.cell hlt
      have fz := hb.frozen kk
      have hb2 := hb.set kk (-1)
      have hbl2 := hbl.setCell ⟨w.heap.size + 1, kk, none⟩ (.int .i64 (-1)) rfl
      have hcg : ∀ b, b < 14 → updI (fillI kk) kk (-1) b = fillI (kk + 1) b := fun b _ => by
        unfold updI fillI
        by_cases e : b = kk
        · subst e; simp
        · rw [if_neg e]
          by_cases h1 : b < kk
          · rw [if_pos h1, if_pos (by omega)]
          · rw [if_neg h1, if_neg (by omega)]
      have hb3 := hb2.congr hcg
      clear hcg hb2
      go_wp2
      go_roundw
      case rel => exact ⟨kk + 1, by omega, by go_num, hb3, hbl2⟩
      case measure => simp [intOf]; omega
    · have hlt' : ¬ (kk : Int) < 14 := by omega
      obtain rfl : kk = 14 := by omega
      have hb3 : BI wr (w.heap.size + 1) (prf (belH h) N 0) := hb.congr (fun b hb => by simp [fillI, hb, prf])
      have y0 := hbl.cell hbd (by simp)
      have hd2 : Dsk wr D A c h (claG h) := hbl.heap hd1 (by omega)
      have y2 := hd2.ws
      rw [HN.out] at y2
      clear hb
      go_wp2_with fail
      have hx2 : Ext w wr := ((Ext.belS (S := fun k => k = w.heap.size + 1) hx1).trans hbl).ext fun k hk e => by omega
      have hz2 := hbl.size
      obtain ⟨W2, hW2⟩ : ∃ W2, W2 = wr := ⟨_, rfl⟩
      subst hW2
      clear hbl hbo hd1
      have HOK := hid (fun m => prf_ok (belH_lt h) m)
      have HSTEP : Hid (∀ a, (plc (belH h) (N + 1) a (prf (belH h) N a) (fun _ => false)).2.1 = prf (belH h) N (a + 1)) := fun a => rfl
      go_loopw [23] (fun i wr => ∃ a : Nat, a ≤ N ∧ i = .int .i64 a ∧ BI wr (w.heap.size + 1) (prf (belH h) N a) ∧ BelS (fun k => k = w.heap.size + 1) W2 wr) (fun i _ => N - (intOf i).toNat)
      case atStart => exact ⟨0, Nat.zero_le _, rfl, hb3, BelS.refl _ _⟩
      case round =>
        obtain ⟨a, hk, rfl, hb, hbl⟩ := hrel
        by_cases hlt : a < N
        · have hlt' : (a : Int) < (N : Int) := by omega
          have hzr := hbl.size
          have z0 := hbl.cell y0 (by simp)
          have hd3 : Dsk wr D A c h (claG h) := hbl.heap hd2 (by omega)
          have hov : OvIn h.ws.length (prf (belH h) N a) := fun b => by
            have k := HOK.out a
            rw [HN.out] at k ⊢
            have := k.lo b
            by_cases e : 0 ≤ prf (belH h) N a b
            · have := (k.hi b e).1; right; omega
            · left; omega
          go_wp2_with fail
          obtain ⟨W3, hW3⟩ : ∃ W3, (wr.alloc (.cells #[.bool false, .bool false, .bool false, .bool false, .bool false, .bool false, .bool false, .bool false, .bool false, .bool false, .bool false, .bool false, .bool false, .bool false] 90)).alloc (.cells #[.func (.func 66) #[] (plcB w.heap.size wr.heap.size (w.heap.size + 1) (wr.heap.size + 1))] 69) = W3 := ⟨_, rfl⟩
          have hx3 : Ext wr W3 := by rw [← hW3]; exact ((Ext.refl _).alloc _).alloc _
          have hbb : BB W3 wr.heap.size (fun _ => false) := by
            rw [← hW3]
            exact (Below.heap_alloc _ _ _ (by simp)).trans (heap_alloc_new wr _)
          have hpl : W3.cell? ⟨wr.heap.size + 1, 0, none⟩ = some (.func (.func 66) #[] (plcB w.heap.size wr.heap.size (w.heap.size + 1) (wr.heap.size + 1))) := by rw [← hW3]; simp [go_sem]
          try simp only [plcB] at hW3
          try rw [hW3]
          clear hW3
          have KK := place_any h D w.heap.size wr.heap.size (w.heap.size + 1) (wr.heap.size + 1) A c (by rw [HN.out]; exact hn) (by omega) (by omega) (by omega) (by omega) (by omega) (by omega) (by omega) (N + 1) a (prf (belH h) N a) (fun _ => false) W3 (by have := um_none h.ws.length; rw [HN.out] at this ⊢; omega) (by rw [HN.out]; exact hlt) hov (hd3.ext hx3) (hx3.cell z0) hbb (hb.ext hx3) hpl
          refine KK.mono ?_
          rintro e w4 ⟨rfl, hb4, -, ho4⟩
          rw [HSTEP.out] at ho4
          have hbl4 := hbl.then_ ((Ext.belS hx3).trans hb4) (fun i hi hS => by rcases hS with rfl | rfl; omega; rfl)
          clear KK
          go_wp2
          go_roundw
          case rel => exact ⟨a + 1, by omega, by go_num, ho4, hbl4⟩
          case measure => simp [intOf]; omega
        · have hlt' : ¬ (a : Int) < (N : Int) := by omega
          obtain rfl : a = N := by omega
          obtain ⟨ov, hov⟩ : ∃ ov, prf (belH h) a a = ov := ⟨_, rfl⟩
          rw [hov] at hb
          have HBL : Hid (BelS (fun k => k = w.heap.size + 1) W2 wr) := hbl
          have hcb := hid (fun b (hb14 : b < 14) => hb.cell hb14)
          obtain ⟨V, hV⟩ : ∃ V, (icell14 ov).toArray = V := ⟨_, rfl⟩
          have HV := hid hV
          have hiv : ∀ k, k < 14 → V[k]? = some (.int .i64 (ov k)) := fun k hk => by rw [← hV]; simp [icell14, hk]
          clear hV
          go_wp2_with (refine wpList_load_cells rfl 112 (.tmp 3) rfl ⟨w.heap.size + 1, 0, none⟩ rfl (icell14 ov) (.array 14 3) (fun j v hv => ?_) Tryz.underlying112 rfl (by rw [info14]; rfl) ?_)
          · have hj : j < 14 := by
              have := (List.getElem?_eq_some_iff.1 hv).1
              simpa [icell14] using this
            have := hcb.out j hj
            rw [show (icell14 ov)[j]? = some (.int .i64 (ov j)) by simp [icell14, hj]] at hv
            cases hv
            exact this
          · rw [HV.out]
            obtain ⟨W0, hW0⟩ : ∃ W0, W0 = wr := ⟨_, rfl⟩
            subst hW0
            have hx20 : Ext w W0 := ((Ext.belS (S := fun k => k = w.heap.size + 1) hx2).trans HBL.out).ext fun k hk e => by omega
            have hvs : V.size = 14 := by rw [← HV.out]; simp [icell14]
            have HIV := hid hiv
            clear hbl hb hcb hiv hd2 y0 y2 HBL
            go_loopw [8, 32] (fun s8 i32 wr => ∃ (k n : Nat) (A' : Option Addr) (c' : Nat), k ≤ 14 ∧ i32 = .int .i64 (k : Int) ∧ (prL ov k).length = n ∧ s8 = .slice A' n c' ∧ wr.ownsRow W0.heap.size 43 2 (.slice A' n c') n (layPr.rows (prL ov k)) ∧ Ext W0 wr) (fun _ i _ => 14 - (intOf i).toNat)
            case atStart => exact ⟨0, 0, none, 0, Nat.zero_le _, rfl, rfl, rfl, own_nil _ _ _ _, Ext.refl _⟩
            case round =>
              obtain ⟨k, n, A', c', hk, rfl, hln, rfl, ho, hx⟩ := hrel
              by_cases hlt : k < 14
              · have hlt' : (k : Int) < 14 := by omega
                have v0 := HIV.out k hlt
                have HNX := hid (prL_next ov k)
                have HLN := hid hln
                have HO := hid ho
                have hn14 := prL_len ov k
                rw [hln] at hn14
                have hovk : ov k = -1 ∨ 0 ≤ ov k := by
                  have kk := (HOK.out a).lo k
                  rw [HN.out, hov] at kk; omega
                clear hln ho
                rcases hovk with e | e
                · rw [e] at v0
                  have hix := idx14 V k _ wr hlt v0
                  have HNE : Hid (prL ov (k + 1) = prL ov k) := by unfold Hid; rw [HNX.out, if_neg (by omega), List.append_nil]
                  clear HNX e
                  go_wp2
                  go_roundw
                  case rel => exact ⟨k + 1, n, A', c', by omega, by go_num, by rw [HNE.out]; exact HLN.out, rfl, by rw [HNE.out]; exact HO.out, hx⟩
                  case measure => simp [intOf]; omega
                · obtain ⟨q, hq⟩ : ∃ q : Nat, ov k = (q : Int) := ⟨(ov k).toNat, by omega⟩
                  have hq14 : q < 14 := by
                    have kk := ((HOK.out a).hi k (by rw [HN.out, hov]; exact e)).1
                    rw [HN.out, hov] at kk; omega
                  rw [hq] at v0
                  have hix := idx14 V k _ wr hlt v0
                  have HNE : Hid (prL ov (k + 1) = prL ov k ++ [((q : Int), (k : Int))]) := by unfold Hid; rw [HNX.out, if_pos e, hq]
                  clear HNX e hq
                  obtain ⟨W5, hW5⟩ : ∃ W5, wr.alloc (.cells #[.int .i64 (q : Int), .int .i64 (k : Int)] 43) = W5 := ⟨_, rfl⟩
                  have hx5 : Ext wr W5 := by rw [← hW5]; exact Ext.alloc (Ext.refl _) _
                  have HRD : Hid (Rd W5 (some ⟨wr.heap.size, 0, none⟩) [.int .i64 (q : Int), .int .i64 (k : Int)]) := by unfold Hid; rw [← hW5]; exact rd_blk2 (heap_alloc_new wr _)
                  have HO5 := hid (own_below HO.out hx5)
                  have hx15 := hx.trans hx5
                  have sz5 : W0.heap.size ≤ W5.heap.size := hx15.size
                  clear HO
                  go_wp2_with (at_builtin; (try rw [hW5]); refine wpList_append_rd2 _ rfl _ _ 35 rfl elem_pr W0.heap.size _ n (layPr.rows (prL ov k)) rfl HO5.out (some ⟨wr.heap.size, 0, none⟩) 1 1 [.int .i64 (q : Int), .int .i64 (k : Int)] rfl rfl HRD.out (by intro u hu; simp at hu; rcases hu with rfl | rfl <;> rfl) (by omega) sz5 ?_)
                  intro A6 c6 W6 own6 hbel6 hgr6 hloc6
                  have hx6 : Ext W0 W6 := Ext.grown hx15 hgr6 (fun g e => (HO5.out.lt g e).1)
                  have hown : W6.ownsRow W0.heap.size 43 2 (.slice A6 (n + 1) c6) (n + 1) (layPr.rows (prL ov (k + 1))) := by
                    rw [HNE.out, layPr.rows_app, layPr.rows_single]; exact own6
                  have HO6 := hid hown
                  have hn1 : (prL ov (k + 1)).length = n + 1 := by rw [HNE.out, List.length_append, HLN.out]; rfl
                  have HN1 := hid hn1
                  clear own6 hbel6 hgr6 hloc6 HO5 HRD hW5 hx5 hown hn1
                  go_wp2
                  go_roundw
                  case rel => exact ⟨k + 1, n + 1, A6, c6, by omega, by go_num, HN1.out, rfl, HO6.out, hx6⟩
                  case measure => simp [intOf]; omega
              · obtain rfl : k = 14 := by omega
                have hlt' : ¬ ((14 : Nat) : Int) < 14 := by omega
                have hln2 : n = sizeH h := by
                  rw [← hln]
                  unfold prL sizeH matL overH
                  rw [List.length_map, HN.out, hov]
                  have hk' := HOK.out a
                  rw [HN.out, hov] at hk'
                  have h14 : 14 = a + (14 - a) := by omega
                  rw [h14, filt_stop (fun b hb => (hk'.hi b (by simpa using hb)).2.1)]
                have hov2 : ∀ b, ov b < 14 := fun b => by
                  have hk' := HOK.out a
                  rw [HN.out, hov] at hk'
                  by_cases e : 0 ≤ ov b
                  · have := (hk'.hi b e).1; omega
                  · omega
                have KS := hid (sort_own ov W0.heap.size wr A' n c' hln hov2 ho)
                have hxw := hx20.trans hx
                have hz := hx20.size
                have HLN := hid hln2
                clear hln2 hln ho hov2 HOK HSTEP
                go_wp2_with fail
                refine KS.out.mono ?_
                rintro e w9 ⟨rfl, hb9⟩
                have hxe := ((Ext.belS (S := fun k => W0.heap.size ≤ k) hxw).trans hb9).ext fun k hk e => by omega
                clear KS
                go_wp2
                go_ret
                exact ⟨⟨A', c', by rw [← HLN.out]; rfl⟩, hxe⟩
end Go.Proofs.YtjnobdcbbboeeaaGreat
