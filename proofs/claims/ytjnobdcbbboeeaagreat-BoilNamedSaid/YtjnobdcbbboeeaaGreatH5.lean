/- Arrays of truth values: held against each other; matrices of fourteen by fourteen. No program stands here. A house at work in memory: the house and what clashes in one block. No program stands here. The walk of boil.opened. Printed by my gen_bopen.py. The walk of desk.agree. slices.Clone and laurelkit.Dup over the kinds of elements of layer 8: rows of their own. Printed by gen_bslices.py. -/
import Derived.Test.YtjnobdcbbboeeaaGreatH2
import Derived.Test.YtjnobdcbbboeeaaGreatH1
import Derived.Test.YtjnobdcbbboeeaaGreatProg
import Derived.Test.YtjnobdcbbboeeaaGreatH4
import Derived.Test.YtjnobdcbbboeeaaGreatH3
import Derived.OwnWalk
namespace Go.Proofs.YtjnobdcbbboeeaaGreat
open Go Go.RowKit
set_option linter.unusedVariables false
set_option linter.unusedSimpArgs false

section
variable {P : Program}
/-! ### '==' -/
theorem run_part_bool (w : World) (e : TypeId) (he : P.underlying e = some .bool) (xs : List Bool) (i : Nat) (x : Bool) (h : xs[i]? = some x) :
    (part e (xs.map (Value.bool)).toArray i).run P w = .ok (.bool x) w := by
  have hagg : (isAgg e).run P w = .ok false w := by
    unfold isAgg
    rw [Sem.run_bind, run_underlying he w]
    simp
  simp [part, Sem.run_bind, hagg, h]

theorem eqItems_bools (w : World) (d : Nat) (e : TypeId) (he : P.underlying e = some .bool) (xs ys : List Bool) : ∀ (is : List Nat), (∀ i ∈ is, i < xs.length ∧ i < ys.length) →
    (Op.eqItems (d + 1) e 1 (xs.map (Value.bool)).toArray (ys.map (Value.bool)).toArray is).run P w = .ok (is.all fun i => xs[i]? == ys[i]?) w
  | [], _ => by simp [Op.eqItems]
  | i :: is, h => by
    obtain ⟨h1, h2⟩ := h i (by simp)
    have hx : xs[i]? = some xs[i] := List.getElem?_eq_getElem h1
    have hy : ys[i]? = some ys[i] := List.getElem?_eq_getElem h2
    have ih := eqItems_bools w d e he xs ys is (fun j hj => h j (by simp [hj]))
    unfold Op.eqItems
    simp only [Nat.mul_one, Sem.run_bind, run_part_bool w e he xs i _ hx, run_part_bool w e he ys i _ hy, Result.andThen_ok, run_equalIn_bool w d e _ _ he, List.all_cons, hx, hy]
    cases hq : (xs[i] == ys[i])
    · have : (some xs[i] == some ys[i]) = false := by simpa using hq
      simp [this]
    · have : (some xs[i] == some ys[i]) = true := by simpa using hq
      simp [this, ih]

theorem all_range_eqB (xs ys : List Bool) (h : xs.length = ys.length) : ((List.range xs.length).all fun i => xs[i]? == ys[i]?) = (xs == ys) := by
  rw [Bool.eq_iff_iff]
  simp only [List.all_eq_true, List.mem_range, beq_iff_eq]
  constructor
  · intro hh
    apply List.ext_getElem? fun i => ?_
    rcases Nat.lt_or_ge i xs.length with hi | hi
    · exact hh i hi
    · rw [List.getElem?_eq_none hi, List.getElem?_eq_none (by omega)]
  · rintro rfl i _; rfl

/-- '==' of two arrays of truth values. -/
theorem run_equalIn_arrB1 (w : World) (d : Nat) (t e : TypeId) (n : Nat) (ht : P.underlying t = some (.array n e)) (he : P.underlying e = some .bool) (hi : (P.info? e).isSome = true) (hc : P.cellsOf e = 1)
    (xs ys : List Bool) (hx : xs.length = n) (hy : ys.length = n) : (Op.equalIn (d + 2) t (.agg (xs.map (Value.bool)).toArray) (.agg (ys.map (Value.bool)).toArray)).run P w = .ok (xs == ys) w := by
  obtain ⟨i, hi⟩ := Option.isSome_iff_exists.1 hi
  rw [run_equalIn_array (w := w) (d + 1) _ _ ht hi, hc, eqItems_bools w d e he xs ys _ (fun i hi => by simp at hi; omega), ← hx, all_range_eqB xs ys (by omega)]

def rowOfB (m : Nat) (xs : List Bool) (i : Nat) : List Bool := (xs.drop (i * m)).take m
theorem rowOfB_len (m n : Nat) (xs : List Bool) (hx : xs.length = n * m) (i : Nat) (hi : i < n) : (rowOfB m xs i).length = m := by
  have h1 : i * m + m ≤ n * m := by
    have := Nat.mul_le_mul_right m (show i + 1 ≤ n by omega)
    rw [Nat.add_mul] at this; omega
  simp [rowOfB, hx]; omega

theorem run_part_rowB (w : World) (t2 e : TypeId) (m : Nat) (ht2 : P.underlying t2 = some (.array m e)) (hi2 : (P.info? t2).isSome = true) (hc2 : P.cellsOf t2 = m) (xs : List Bool) (i : Nat) :
    (part t2 (xs.map (Value.bool)).toArray (i * m)).run P w = .ok (.agg ((rowOfB m xs i).map (Value.bool)).toArray) w := by
  have hagg : (isAgg t2).run P w = .ok true w := by
    unfold isAgg
    rw [Sem.run_bind, run_underlying ht2 w]
    simp
  obtain ⟨inf, hinf⟩ := Option.isSome_iff_exists.1 hi2
  simp only [part, Sem.run_bind, hagg, Result.andThen_ok, if_true, run_sizeOf w hinf, hc2, Sem.run_pure]
  congr 2
  simp [rowOfB, List.map_drop, List.map_take, List.extract_eq_take_drop]

theorem rows_eqB (m : Nat) (xs ys : List Bool) : ∀ n, xs.length = n * m → ys.length = n * m → ((List.range n).all fun i => rowOfB m xs i == rowOfB m ys i) = (xs == ys) := by
  intro n hx hy
  rw [Bool.eq_iff_iff]
  simp only [List.all_eq_true, List.mem_range, beq_iff_eq]
  constructor
  · intro hh
    rcases Nat.eq_zero_or_pos m with hm | hm
    · subst hm; simp at hx hy; rw [hx, hy]
    · apply List.ext_getElem? fun j => ?_
      rcases Nat.lt_or_ge j xs.length with hj | hj
      · have hq : j / m < n := Nat.div_lt_of_lt_mul (by rw [Nat.mul_comm]; omega)
        have hr := congrArg (fun l => l[j % m]?) (hh (j / m) hq)
        have hmod : j % m < m := Nat.mod_lt _ hm
        have hdj : j / m * m + j % m = j := by rw [Nat.mul_comm]; exact Nat.div_add_mod j m
        simp only [rowOfB, List.getElem?_take, hmod, if_true, List.getElem?_drop, hdj] at hr
        exact hr
      · rw [List.getElem?_eq_none hj, List.getElem?_eq_none (by omega)]
  · rintro rfl i _; rfl

theorem eqItems_rowsB (w : World) (d : Nat) (t2 e : TypeId) (n m : Nat) (ht2 : P.underlying t2 = some (.array m e)) (hi2 : (P.info? t2).isSome = true) (hc2 : P.cellsOf t2 = m) (he : P.underlying e = some .bool) (hi : (P.info? e).isSome = true) (hc : P.cellsOf e = 1)
    (xs ys : List Bool) (hx : xs.length = n * m) (hy : ys.length = n * m) : ∀ (is : List Nat), (∀ i ∈ is, i < n) →
    (Op.eqItems (d + 2) t2 m (xs.map (Value.bool)).toArray (ys.map (Value.bool)).toArray is).run P w = .ok (is.all fun i => rowOfB m xs i == rowOfB m ys i) w
  | [], _ => by simp [Op.eqItems]
  | i :: is, h => by
    have ih := eqItems_rowsB w d t2 e n m ht2 hi2 hc2 he hi hc xs ys hx hy is (fun j hj => h j (by simp [hj]))
    have hin := h i (by simp)
    unfold Op.eqItems
    simp only [Sem.run_bind, run_part_rowB w t2 e m ht2 hi2 hc2, Result.andThen_ok, run_equalIn_arrB1 w d t2 e m ht2 he hi hc _ _ (rowOfB_len m n xs hx i hin) (rowOfB_len m n ys hy i hin), List.all_cons]
    cases hq : (rowOfB m xs i == rowOfB m ys i)
    · simp
    · simp [ih]

/-- '==' of two arrays of arrays of truth values. -/
theorem run_equalIn_arrB2 (w : World) (d : Nat) (t t2 e : TypeId) (n m : Nat) (ht : P.underlying t = some (.array n t2)) (ht2 : P.underlying t2 = some (.array m e)) (hi2 : (P.info? t2).isSome = true) (hc2 : P.cellsOf t2 = m) (he : P.underlying e = some .bool) (hi : (P.info? e).isSome = true) (hc : P.cellsOf e = 1)
    (xs ys : List Bool) (hx : xs.length = n * m) (hy : ys.length = n * m) : (Op.equalIn (d + 3) t (.agg (xs.map (Value.bool)).toArray) (.agg (ys.map (Value.bool)).toArray)).run P w = .ok (xs == ys) w := by
  obtain ⟨inf, hinf⟩ := Option.isSome_iff_exists.1 hi2
  rw [run_equalIn_array (w := w) (d + 2) _ _ ht hinf, hc2, eqItems_rowsB w d t2 e n m ht2 hi2 hc2 he hi hc xs ys hx hy _ (fun i hi => by simpa using hi), rows_eqB m xs ys n hx hy]

end
/-! ### Fourteen by fourteen -/
abbrev MatB := Nat → Nat → Bool
def gb (g : MatB) : List Bool := (List.range 196).map fun i => g (i / 14) (i % 14)
def updM (g : MatB) (a b : Nat) (x : Bool) : MatB := fun p q => if p = a ∧ q = b then x else g p q
theorem gb_len (g : MatB) : (gb g).length = 196 := by simp [gb]
theorem gb_get (g : MatB) {a b : Nat} (ha : a < 14) (hb : b < 14) : (gb g)[a * 14 + b]? = some (g a b) := by
  have h : a * 14 + b < 196 := by omega
  simp only [gb, List.getElem?_map, List.getElem?_range h, Option.map_some]
  congr 2 <;> omega
theorem gb_upd (g : MatB) {a b : Nat} (x : Bool) (ha : a < 14) (hb : b < 14) : gb (updM g a b x) = (gb g).set (a * 14 + b) x := by
  apply List.ext_getElem?
  intro i
  rw [List.getElem?_set]
  rcases Nat.lt_or_ge i 196 with hi | hi
  · have e : i = i / 14 * 14 + i % 14 := by omega
    have h1 := gb_get (updM g a b x) (a := i / 14) (b := i % 14) (by omega) (by omega)
    have h2 := gb_get g (a := i / 14) (b := i % 14) (by omega) (by omega)
    rw [← e] at h1 h2
    rw [h1, h2, gb_len]
    unfold updM
    by_cases hab : a * 14 + b = i
    · rw [if_pos (by omega), if_pos hab, if_pos (by omega)]
    · rw [if_neg (by omega), if_neg hab]
  · rw [List.getElem?_eq_none (by rw [gb_len]; omega), if_neg (by omega), List.getElem?_eq_none (by rw [gb_len]; omega)]
theorem gb_congr {g g' : MatB} (h : ∀ a b, a < 14 → b < 14 → g a b = g' a b) : gb g = gb g' := by
  unfold gb
  apply List.map_congr_left
  intro i hi
  simp at hi
  exact h _ _ (by omega) (by omega)
def zeroM : MatB := fun _ _ => false
theorem gb_zero : gb zeroM = List.replicate 196 false := by decide +kernel
theorem gb_is_zero (g : MatB) : (gb g == List.replicate 196 false) = true ↔ ∀ a b, a < 14 → b < 14 → g a b = false := by
  rw [beq_iff_eq]
  constructor
  · intro h a b ha hb
    have h1 := gb_get g ha hb
    rw [h, List.getElem?_replicate, if_pos (by omega)] at h1
    exact (Option.some.inj h1).symm
  · intro h
    rw [← gb_zero]; exact gb_congr h
end Go.Proofs.YtjnobdcbbboeeaaGreat

namespace Go.Proofs.YtjnobdcbbboeeaaGreat
open Go Go.RowKit
set_option linter.unusedVariables false
set_option linter.unusedSimpArgs false

def dcells (h : Hs) (A : Option Addr) (c : Nat) (g : MatB) : List Value := .int .i64 h.mo :: .int .i64 h.pk :: .slice A h.ws.length c :: (gb g).map Value.bool
/-- Block D is a house at work, with what clashes. -/
def Dsk (w : World) (D : Nat) (A : Option Addr) (c : Nat) (h : Hs) (g : MatB) : Prop := w.heap[D]? = some (.cells (dcells h A c g).toArray 93 (0, 0))
section
variable {w w' : World} {D : Nat} {A : Option Addr} {c : Nat} {h : Hs} {g : MatB}
theorem Dsk.lt (k : Dsk w D A c h g) : D < w.heap.size := (Array.getElem?_eq_some_iff.1 k).1
theorem Dsk.ext (k : Dsk w D A c h g) (hx : Ext w w') : Dsk w' D A c h g := (Below.block hx D k.lt).trans k
theorem Dsk.bel {X : Nat} (k : Dsk w D A c h g) (hx : Bel X w w') (hD : D ≠ X) : Dsk w' D A c h g := (hx.2 D k.lt hD).trans k
theorem Dsk.cell (k : Dsk w D A c h g) (i : Nat) : w.cell? ⟨D, i, none⟩ = (dcells h A c g)[i]? := by
  rw [cell_of_row w D i _ _ _ k]; simp
theorem Dsk.at_ (k : Dsk w D A c h g) {a b : Nat} (ha : a < 14) (hb : b < 14) : w.cell? ⟨D, 3 + a * 14 + b, none⟩ = some (.bool (g a b)) := by
  rw [k.cell, show 3 + a * 14 + b = (a * 14 + b) + 3 by omega]
  simp [dcells, gb_get g ha hb]
theorem Dsk.mo (k : Dsk w D A c h g) : w.cell? ⟨D, 0, none⟩ = some (.int .i64 h.mo) := by rw [k.cell]; rfl
theorem Dsk.pk (k : Dsk w D A c h g) : w.cell? ⟨D, 1, none⟩ = some (.int .i64 h.pk) := by rw [k.cell]; rfl
theorem Dsk.ws (k : Dsk w D A c h g) : w.cell? ⟨D, 2, none⟩ = some (.slice A h.ws.length c) := by rw [k.cell]; rfl
theorem Dsk.frozen (k : Dsk w D A c h g) (i : Nat) : w.frozen? ⟨D, i, none⟩ = false := by
  unfold Dsk at k
  simp [World.frozen?, k]
theorem Dsk.set (k : Dsk w D A c h g) {a b : Nat} (ha : a < 14) (hb : b < 14) (x : Bool) : Dsk (w.setCell ⟨D, 3 + a * 14 + b, none⟩ (.bool x)) D A c h (updM g a b x) := by
  unfold Dsk at k ⊢
  simp only [World.setCell, Array.getElem?_modify, k, if_true, Option.map_some]
  have e : 3 + a * 14 + b = a * 14 + b + 1 + 1 + 1 := by omega
  simp only [e, dcells, List.setIfInBounds_toArray, List.set_cons_succ, gb_upd g x ha hb, List.map_set, Option.isSome_none, Bool.false_eq_true, if_false]
theorem Dsk.congr {g' : MatB} (k : Dsk w D A c h g) (he : ∀ a b, a < 14 → b < 14 → g a b = g' a b) : Dsk w D A c h g' := by
  unfold Dsk dcells at *
  rw [← gb_congr he]; exact k
theorem Dsk.mat (k : Dsk w D A c h g) : ∀ (j : Nat) (v : Value), ((gb g).map Value.bool)[j]? = some v → w.cell? ⟨D, 3 + j, none⟩ = some v := fun j v hv => by
  rw [k.cell, show 3 + j = j + 3 by omega]
  simpa [dcells] using hv
end
/-- What clashes, of weighings that there are. -/
def claG (h : Hs) : MatB := fun a b => decide (a < h.ws.length) && decide (b < h.ws.length) && claH h a b
theorem claG_is {h : Hs} {a b : Nat} (ha : a < h.ws.length) (hb : b < h.ws.length) : claG h a b = claH h a b := by unfold claG; simp [ha, hb]
def tillB (h : Hs) (a b : Nat) : MatB := fun x y => decide (x < a ∨ (x = a ∧ y < b)) && claG h x y
section
variable {h : Hs}
theorem tillB_none : ∀ a b, a < 14 → b < 14 → zeroM a b = tillB h 0 0 a b := fun a b _ _ => by unfold zeroM tillB; simp
theorem tillB_row {a : Nat} (ha : a < h.ws.length) : ∀ x y, x < 14 → y < 14 → tillB h a h.ws.length x y = tillB h (a + 1) 0 x y := fun x y _ _ => by
  unfold tillB
  by_cases e : y < h.ws.length
  · have : decide (x < a ∨ (x = a ∧ y < h.ws.length)) = decide (x < a + 1 ∨ (x = a + 1 ∧ y < 0)) := by
      rw [decide_eq_decide]; omega
    rw [this]
  · have : claG h x y = false := by unfold claG; simp [e]
    rw [this]; simp
theorem tillB_all : ∀ x y, x < 14 → y < 14 → tillB h h.ws.length 0 x y = claG h x y := fun x y _ _ => by
  unfold tillB
  by_cases e : x < h.ws.length
  · simp [e]
  · have : claG h x y = false := by unfold claG; simp [e]
    rw [this]; simp
theorem tillB_set {a b : Nat} (ha : a < h.ws.length) (hb : b < h.ws.length) : ∀ x y, x < 14 → y < 14 → updM (tillB h a b) a b (claH h a b) x y = tillB h a (b + 1) x y := fun x y _ _ => by
  unfold updM
  by_cases e : x = a ∧ y = b
  · obtain ⟨rfl, rfl⟩ := e
    rw [if_pos ⟨rfl, rfl⟩]
    unfold tillB
    rw [claG_is ha hb]; simp
  · rw [if_neg e]
    unfold tillB
    have : decide (x < a ∨ (x = a ∧ y < b)) = decide (x < a ∨ (x = a ∧ y < b + 1)) := by
      rw [decide_eq_decide]; omega
    rw [this]
end
/-- The value of a pointer to a house at work. -/
def DskR (w : World) (v : Value) (h : Hs) : Prop := ∃ D A c, v = .pointer (some ⟨D, 0, none⟩) ∧ Dsk w D A c h (claG h) ∧ Wgs w A h.ws ∧ h.ws.length ≤ c
theorem DskR.ext {w w' : World} {v : Value} {h : Hs} (k : DskR w v h) (hx : Ext w w') : DskR w' v h := by
  obtain ⟨D, A, c, e, h1, h2, h3⟩ := k
  exact ⟨D, A, c, e, h1.ext hx, Rows.ext h2 hx, h3⟩
end Go.Proofs.YtjnobdcbbboeeaaGreat

namespace Go.Proofs.YtjnobdcbbboeeaaGreat
open Go Go.RowKit Go.Shelf
set_option linter.unusedVariables false
set_option linter.unusedSimpArgs false

def OpenPost (w : World) (h : Hs) (e : Ending) (w' : World) : Prop :=
  ∃ r, e = .returned (.tuple #[r, .int .i64 (checkH h)]) ∧ Ext w w' ∧ (checkH h = 0 → DskR w' r h) ∧ (checkH h ≠ 0 → r = .pointer none)
set_option maxRecDepth 100000 in
set_option maxHeartbeats 8000000 in
theorem opened_any (v : Value) (h : Hs) (w : World) (hr : HsR w v h) (hs : h.sized) :
    Calls Tryz.prog 27 #[v] w (OpenPost w h) := by
  obtain ⟨A, c, rfl, hrw, hcap⟩ := hr
  obtain ⟨T, hT⟩ : ∃ T, checkH h = T := ⟨_, rfl⟩
  unfold OpenPost
  obtain ⟨w1, hw1⟩ : ∃ w1, w.alloc (.cells #[.int .i64 h.mo, .int .i64 h.pk, .slice A h.ws.length c] 25) = w1 := ⟨_, rfl⟩
  have hx1 : Ext w w1 := by rw [← hw1]; exact Ext.alloc (Ext.refl w) _
  have b1 : w1.heap[w.heap.size]? = some (.cells #[.int .i64 h.mo, .int .i64 h.pk, .slice A h.ws.length c] 25 (0, 0)) := by rw [← hw1]; exact heap_alloc_new w _
  have FH : Hid (∀ w', Ext w1 w' → w'.cell? ⟨w.heap.size, 0, none⟩ = some (.int .i64 h.mo) ∧ w'.cell? ⟨w.heap.size, 1, none⟩ = some (.int .i64 h.pk) ∧ w'.cell? ⟨w.heap.size, 2, none⟩ = some (.slice A h.ws.length c)) := fun w' hx =>
    ⟨hx.cell (by rw [cell_of_row w1 w.heap.size 0 _ _ _ b1]; rfl), hx.cell (by rw [cell_of_row w1 w.heap.size 1 _ _ _ b1]; rfl), hx.cell (by rw [cell_of_row w1 w.heap.size 2 _ _ _ b1]; rfl)⟩
  have HRW : Hid (∀ w', Ext w1 w' → Wgs w' A h.ws) := fun w' hx => Rows.ext hrw (hx1.trans hx)
  have KC := hid (check_any (hval h A c) h w1 ⟨A, c, rfl, HRW.out w1 (Ext.refl _), hcap⟩ hs)
  unfold hval at KC
  rw [hT] at KC ⊢
  have HT := hid hT
  have HW1 := hid hw1
  have hB1 := (Array.getElem?_eq_some_iff.1 b1).1
  clear hw1 hT hrw b1 hs
  unfold hval
  go_enter Tryz.func27, Tryz.ntmps27
  go_upto_region 1 with fail
  rw [HW1.out]
  clear HW1
  obtain ⟨c0, c1, c2⟩ := FH.out w1 (Ext.refl _)
  go_wp2_with fail
  refine KC.out.mono ?_
  clear KC c0 c1 c2
  rintro e w2 ⟨rfl, h2⟩
  have hx2 := hx1.trans h2
  by_cases h0 : T = 0
  case neg =>
    have h0b : (T != 0) = true := by simpa using h0
    go_wp2
    go_ret2
    exact ⟨.pointer none, rfl, hx2, fun e => absurd e h0, fun _ => rfl⟩
  subst h0
  have HOK : Hid (HsOK h) := checkH_ok HT.out
  have hmo := HOK.out.mo
  have hlen := HOK.out.len
  obtain ⟨c0, c1, c2⟩ := FH.out w2 h2
  go_upto_region 5 with fail
  obtain ⟨W0, hW0⟩ : ∃ W0, w2.alloc (.cells (dcells h A c zeroM).toArray 93) = W0 := ⟨_, rfl⟩
  have hcells : (((Tryz.zeroCells93.setIfInBounds 0 (Value.int IntKind.i64 h.mo)).setIfInBounds 1 (.int .i64 h.pk)).setIfInBounds 2 (.slice A h.ws.length c)) = (dcells h A c zeroM).toArray := by
    simp only [dcells, gb_zero]
    unfold Tryz.zeroCells93
    rfl
  rw [hcells, hW0]
  obtain ⟨D, hD⟩ : ∃ D, w2.heap.size = D := ⟨_, rfl⟩
  have hX1 : Ext w2 W0 := by rw [← hW0]; exact Ext.alloc (Ext.refl _) _
  have hd0 : Dsk W0 D A c h zeroM := by rw [← hW0, ← hD]; exact World.alloc_heap_new _ _
  have hX0 : Ext w W0 := hx2.trans hX1
  have h10 : Ext w1 W0 := h2.trans hX1
  have hDw : w1.heap.size ≤ D := by have := h2.size; omega
  rw [hD]
  clear hW0 hcells c0 c1 c2 hX1 hD h2 hx2
  obtain ⟨c0, c1, c2⟩ := FH.out W0 h10
  go_wp2
  clear c0 c1 c2
  go_loopw [21] (fun i21 wr => ∃ a : Nat, a ≤ h.ws.length ∧ i21 = .int .i64 (a : Int) ∧ Dsk wr D A c h (tillB h a 0) ∧ Bel D W0 wr) (fun i _ => h.ws.length - (intOf i).toNat)
  case atStart => exact ⟨0, Nat.zero_le _, rfl, hd0.congr tillB_none, Bel.refl _ _⟩
  case round =>
    obtain ⟨a, ha, rfl, hd, hb⟩ := hrel
    have hx1r := h10.then_bel hDw hb
    by_cases hlt : a < h.ws.length
    · have hltI : (a : Int) < (h.ws.length : Int) := by omega
      have ha1 : a + 1 ≤ h.ws.length := hlt
      have ha14 : a < 14 := by omega
      have hga := wgAt_get hlt
      obtain ⟨x, hx⟩ : ∃ x, wgAt h a = x := ⟨_, rfl⟩
      have hmx := wgAt_mem hlt
      rw [hx] at hga hmx
      obtain ⟨bA, oA, eA, g0, g1, g2, g3, g4⟩ := Wgs.at_ (HRW.out wr hx1r) hga
      obtain ⟨VB, hVB⟩ : ∃ VB, wr.heap.size = VB := ⟨_, rfl⟩
      obtain ⟨W1, hW1⟩ : ∃ W1, wr.alloc (.cells #[.int .i64 x.mo, .int .i64 x.sl, .int .i64 x.sh, .int .i64 x.ml, .int .i64 x.mh] 67) = W1 := ⟨_, rfl⟩
      have hxa : Ext wr W1 := by rw [← hW1]; exact Ext.alloc (Ext.refl _) _
      have bV : W1.heap[VB]? = some (.cells #[.int .i64 x.mo, .int .i64 x.sl, .int .i64 x.sh, .int .i64 x.ml, .int .i64 x.mh] 67 (0, 0)) := by rw [← hW1, ← hVB]; exact heap_alloc_new wr _
      have FV : Hid (∀ w', Bel D W1 w' → w'.cell? ⟨VB, 0, none⟩ = some (.int .i64 x.mo) ∧ w'.cell? ⟨VB, 1, none⟩ = some (.int .i64 x.sl) ∧ w'.cell? ⟨VB, 2, none⟩ = some (.int .i64 x.sh) ∧ w'.cell? ⟨VB, 3, none⟩ = some (.int .i64 x.ml) ∧ w'.cell? ⟨VB, 4, none⟩ = some (.int .i64 x.mh)) := fun w' hy => by
        have hne : VB ≠ D := by have := hd.lt; omega
        have q := hy.heap bV hne
        exact ⟨by rw [cell_of_row w' VB 0 _ _ _ q]; rfl, by rw [cell_of_row w' VB 1 _ _ _ q]; rfl, by rw [cell_of_row w' VB 2 _ _ _ q]; rfl, by rw [cell_of_row w' VB 3 _ _ _ q]; rfl, by rw [cell_of_row w' VB 4 _ _ _ q]; rfl⟩
      have HVB := hid hVB
      have HW1 := hid hW1
      have hdW := hd.ext hxa
      have hbW : Bel D W0 W1 := hb.trans hxa.bel
      have hdlt := hd.lt
      have HEA := hid eA
      rw [eA]
      clear hW1 bV hd hga eA hVB
      obtain ⟨c0, c1, c2⟩ := FH.out wr hx1r
      go_upto_region 8 with fail
      rw [HW1.out, HVB.out]
      clear HW1 HVB g0 g1 g2 g3 g4 c0 c1 c2
      obtain ⟨c0, c1, c2⟩ := FH.out W1 (hx1r.trans hxa)
      rw [HEA.out] at c2
      go_wp2
      clear c0 c1 c2
      go_loopw [29] (fun i29 wr => ∃ b : Nat, b ≤ h.ws.length ∧ i29 = .int .i64 (b : Int) ∧ Dsk wr D A c h (tillB h a b) ∧ Bel D W1 wr) (fun i _ => h.ws.length - (intOf i).toNat)
      case atStart => exact ⟨0, Nat.zero_le _, rfl, hdW, Bel.refl _ _⟩
      case round =>
        obtain ⟨b, hbl, rfl, hd, hbb⟩ := hrel
        have hx1s := h10.then_bel hDw (hbW.trans hbb)
        by_cases hltb : b < h.ws.length
        · have hltbI : (b : Int) < (h.ws.length : Int) := by omega
          have hb1 : b + 1 ≤ h.ws.length := hltb
          have hb14 : b < 14 := by omega
          have hgb := wgAt_get hltb
          obtain ⟨y, hy⟩ : ∃ y, wgAt h b = y := ⟨_, rfl⟩
          have hmy := wgAt_mem hltb
          rw [hy] at hgb hmy
          obtain ⟨bA2, oA2, eA2, g0, g1, g2, g3, g4⟩ := Wgs.at_ (HRW.out wr hx1s) hgb
          rw [HEA.out] at eA2
          cases eA2
          obtain ⟨WW, hWW⟩ : ∃ WW, wr.alloc (.cells #[.int .i64 y.mo, .int .i64 y.sl, .int .i64 y.sh, .int .i64 y.ml, .int .i64 y.mh] 67) = WW := ⟨_, rfl⟩
          have hxb : Ext wr WW := by rw [← hWW]; exact Ext.alloc (Ext.refl _) _
          have bW : WW.heap[wr.heap.size]? = some (.cells #[.int .i64 y.mo, .int .i64 y.sl, .int .i64 y.sh, .int .i64 y.ml, .int .i64 y.mh] 67 (0, 0)) := by rw [← hWW]; exact heap_alloc_new wr _
          have mx := HOK.out.ms x hmx
          have my := HOK.out.ms y hmy
          have HLO := low_small (n := x.ml) (d := x.sh) (by omega) (by omega)
          have HHI := low_small (n := y.mh) (d := y.sl) (by omega) (by omega)
          have hcl : claH h a b = (undH h x.mo y.mo && abv x.lo y.hi) := by unfold claH; rw [hx, hy]
          obtain ⟨LO, hLO⟩ : ∃ LO, x.lo = LO := ⟨_, rfl⟩
          obtain ⟨HI, hHI⟩ : ∃ HI, y.hi = HI := ⟨_, rfl⟩
          have KLo := least_any x
          have KHi := most_any y
          have HLO : Rsm LO := by rw [← hLO]; exact HLO
          have HHI : Rsm HI := by rw [← hHI]; exact HHI
          rw [hLO] at hcl KLo
          rw [hHI] at hcl KHi
          obtain ⟨AB, hAB⟩ : ∃ AB, abv LO HI = AB := ⟨_, rfl⟩
          obtain ⟨UN, hUN⟩ : ∃ UN, undH h x.mo y.mo = UN := ⟨_, rfl⟩
          have KUn := fun w' hr => under_any (.agg #[.int .i64 h.mo, .int .i64 h.pk, .slice (some ⟨bA, oA, none⟩) h.ws.length c]) h x.mo y.mo w' hr
          have KAb := fun w' => above_any LO HI w' HLO HHI
          rw [hAB] at hcl KAb
          rw [hUN] at hcl KUn
          have FX : Hid (∀ w', Ext WW w' → (w'.cell? ⟨w.heap.size, 0, none⟩ = some (.int .i64 h.mo) ∧ w'.cell? ⟨w.heap.size, 1, none⟩ = some (.int .i64 h.pk) ∧ w'.cell? ⟨w.heap.size, 2, none⟩ = some (.slice (some ⟨bA, oA, none⟩) h.ws.length c)) ∧ (w'.cell? ⟨VB, 0, none⟩ = some (.int .i64 x.mo) ∧ w'.cell? ⟨VB, 1, none⟩ = some (.int .i64 x.sl) ∧ w'.cell? ⟨VB, 2, none⟩ = some (.int .i64 x.sh) ∧ w'.cell? ⟨VB, 3, none⟩ = some (.int .i64 x.ml) ∧ w'.cell? ⟨VB, 4, none⟩ = some (.int .i64 x.mh)) ∧ w'.cell? ⟨wr.heap.size, 0, none⟩ = some (.int .i64 y.mo) ∧ w'.cell? ⟨wr.heap.size, 1, none⟩ = some (.int .i64 y.sl) ∧ w'.cell? ⟨wr.heap.size, 2, none⟩ = some (.int .i64 y.sh) ∧ w'.cell? ⟨wr.heap.size, 3, none⟩ = some (.int .i64 y.ml) ∧ w'.cell? ⟨wr.heap.size, 4, none⟩ = some (.int .i64 y.mh)) := fun w' hz => by
            refine ⟨?_, FV.out w' (hbb.trans (hxb.trans hz).bel), ?_⟩
            · have := FH.out w' (hx1s.trans (hxb.trans hz))
              rw [HEA.out] at this; exact this
            · exact ⟨hz.cell (by rw [cell_of_row WW wr.heap.size 0 _ _ _ bW]; rfl), hz.cell (by rw [cell_of_row WW wr.heap.size 1 _ _ _ bW]; rfl), hz.cell (by rw [cell_of_row WW wr.heap.size 2 _ _ _ bW]; rfl), hz.cell (by rw [cell_of_row WW wr.heap.size 3 _ _ _ bW]; rfl), hz.cell (by rw [cell_of_row WW wr.heap.size 4 _ _ _ bW]; rfl)⟩
          have KU : Hid (∀ w', Ext WW w' → Calls Tryz.prog 62 #[.agg #[.int .i64 h.mo, .int .i64 h.pk, .slice (some ⟨bA, oA, none⟩) h.ws.length c], .int .i64 x.mo, .int .i64 y.mo] w' fun e w2 => e = .returned (.bool UN) ∧ Ext w' w2) := fun w' hz => by
            have hrr := HRW.out w' (hx1s.trans (hxb.trans hz))
            rw [HEA.out] at hrr
            exact KUn w' ⟨some ⟨bA, oA, none⟩, c, rfl, hrr, hcap⟩
          have KL : Hid (∀ w', Ext WW w' → Calls Tryz.prog 34 #[.agg #[.int .i64 x.mo, .int .i64 x.sl, .int .i64 x.sh, .int .i64 x.ml, .int .i64 x.mh]] w' fun e w2 => e = .returned (.agg #[.int .i64 LO.1, .int .i64 LO.2]) ∧ Ext w' w2) := fun w' _ => KLo w' (by omega)
          have KH : Hid (∀ w', Ext WW w' → Calls Tryz.prog 35 #[.agg #[.int .i64 y.mo, .int .i64 y.sl, .int .i64 y.sh, .int .i64 y.ml, .int .i64 y.mh]] w' fun e w2 => e = .returned (.agg #[.int .i64 HI.1, .int .i64 HI.2]) ∧ Ext w' w2) := fun w' _ => KHi w' (by omega)
          have KA : Hid (∀ w', Ext WW w' → Calls Tryz.prog 33 #[.agg #[.int .i64 LO.1, .int .i64 LO.2], .agg #[.int .i64 HI.1, .int .i64 HI.2]] w' fun e w2 => e = .returned (.bool AB) ∧ Ext w' w2) := fun w' _ => KAb w'
          have HSET : Hid (∀ W', Dsk W' D A c h (updM (tillB h a b) a b (UN && AB)) → Dsk W' D A c h (tillB h a (b + 1))) := fun W' k => by
            rw [← hcl] at k
            exact k.congr (tillB_set hlt hltb)
          have HWW := hid hWW
          have hd1 := hd.ext hxb
          have hbb1 : Bel D W1 WW := hbb.trans hxb.bel
          have hI1 : (a : Int) < 14 := by omega
          have hI2 : (b : Int) < 14 := by omega
          clear hWW bW hd hgb hcl hLO hHI hAB hUN KLo KHi KUn KAb hbb
          go_upto_region 11 with fail
          rw [HWW.out]
          clear HWW g0 g1 g2 g3 g4
          cases UN
          case false =>
            refine wp_region_shut_tail Ext (fun w' => Ext WW w') (fun
              | 8 => some (fun v _ => v = .bool false)
              | _ => none) 20 (by kernel_rfl) (by kernel_rfl) (fun _ _ h k => h.trans k) ?hTra (Ext.drew (Ext.refl WW)) ?_
            case hTra =>
              intro i R hR
              match i, hR with
              | 8, hR => cases hR; exact fun _ _ _ h _ => h
            refine wM_val ?ura0 rfl rfl Ext.refl (fun w' hD => ?hra0) (fun phra0 => ?nra0)
            case hra0 =>
              obtain ⟨⟨d0, d1, d2⟩, ⟨e0, e1, e2, e3, e4⟩, f0, f1, f2, f3, f4⟩ := FX.out w' hD.1
              go_simp; rfl
            simp only [Act.put, List.setIfInBounds_toArray, List.set_cons_succ, List.set_cons_zero, Nat.reduceAdd]
            refine wM_val ?ura1 rfl rfl Ext.refl (fun w' hD => ?hra1) (fun phra1 => ?nra1)
            case hra1 =>
              obtain ⟨⟨d0, d1, d2⟩, ⟨e0, e1, e2, e3, e4⟩, f0, f1, f2, f3, f4⟩ := FX.out w' hD.1
              go_simp; rfl
            simp only [Act.put, List.setIfInBounds_toArray, List.set_cons_succ, List.set_cons_zero, Nat.reduceAdd]
            refine wM_val ?ura2 rfl rfl Ext.refl (fun w' hD => ?hra2) (fun phra2 => ?nra2)
            case hra2 =>
              obtain ⟨⟨d0, d1, d2⟩, ⟨e0, e1, e2, e3, e4⟩, f0, f1, f2, f3, f4⟩ := FX.out w' hD.1
              go_simp; rfl
            simp only [Act.put, List.setIfInBounds_toArray, List.set_cons_succ, List.set_cons_zero, Nat.reduceAdd]
            refine wM_val ?ura3 rfl rfl Ext.refl (fun w' hD => ?hra3) (fun phra3 => ?nra3)
            case hra3 =>
              obtain ⟨⟨d0, d1, d2⟩, ⟨e0, e1, e2, e3, e4⟩, f0, f1, f2, f3, f4⟩ := FX.out w' hD.1
              go_simp; rfl
            simp only [Act.put, List.setIfInBounds_toArray, List.set_cons_succ, List.set_cons_zero, Nat.reduceAdd]
            refine wM_val ?ura4 rfl rfl Ext.refl (fun w' hD => ?hra4) (fun phra4 => ?nra4)
            case hra4 =>
              obtain ⟨⟨d0, d1, d2⟩, ⟨e0, e1, e2, e3, e4⟩, f0, f1, f2, f3, f4⟩ := FX.out w' hD.1
              go_simp; rfl
            simp only [Act.put, List.setIfInBounds_toArray, List.set_cons_succ, List.set_cons_zero, Nat.reduceAdd]
            refine wM_val ?ura5 rfl rfl Ext.refl (fun w' hD => ?hra5) (fun phra5 => ?nra5)
            case hra5 =>
              obtain ⟨⟨d0, d1, d2⟩, ⟨e0, e1, e2, e3, e4⟩, f0, f1, f2, f3, f4⟩ := FX.out w' hD.1
              go_simp; rfl
            simp only [Act.put, List.setIfInBounds_toArray, List.set_cons_succ, List.set_cons_zero, Nat.reduceAdd]
            refine wM_val ?ura6 rfl rfl Ext.refl (fun w' hD => ?hra6) (fun phra6 => ?nra6)
            case hra6 =>
              obtain ⟨⟨d0, d1, d2⟩, ⟨e0, e1, e2, e3, e4⟩, f0, f1, f2, f3, f4⟩ := FX.out w' hD.1
              go_simp; rfl
            simp only [Act.put, List.setIfInBounds_toArray, List.set_cons_succ, List.set_cons_zero, Nat.reduceAdd]
            refine wM_val ?ura7 rfl rfl Ext.refl (fun w' hD => ?hra7) (fun phra7 => ?nra7)
            case hra7 =>
              obtain ⟨⟨d0, d1, d2⟩, ⟨e0, e1, e2, e3, e4⟩, f0, f1, f2, f3, f4⟩ := FX.out w' hD.1
              go_simp; rfl
            simp only [Act.put, List.setIfInBounds_toArray, List.set_cons_succ, List.set_cons_zero, Nat.reduceAdd]
            refine wM_op _ rfl rfl (opens_call ?fra8 ?gra8 (fun w' hD => ?hra8) (fun w' hD => ?cra8)) (fun v8 hv8 => ?nra8)
            case hra8 => go_simp; constructor <;> rfl
            case cra8 =>
              refine (KU.out w' hD.1).mono ?_
              rintro e w2 ⟨rfl, hb⟩
              exact ⟨_, rfl, hb, rfl⟩
            obtain ⟨_, -, -, rfl⟩ := hv8
            simp only [Act.put, List.setIfInBounds_toArray, List.set_cons_succ, List.set_cons_zero, Nat.reduceAdd]
            refine wM_val ?ura9 rfl rfl Ext.refl (fun w' hD => ?hra9) (fun phra9 => ?nra9)
            case hra9 =>
              obtain ⟨⟨d0, d1, d2⟩, ⟨e0, e1, e2, e3, e4⟩, f0, f1, f2, f3, f4⟩ := FX.out w' hD.1
              go_simp; rfl
            simp only [Act.put, List.setIfInBounds_toArray, List.set_cons_succ, List.set_cons_zero, Nat.reduceAdd]
            refine wM_skip rfl ?_
            simp only [Act.put, List.setIfInBounds_toArray, List.set_cons_succ, List.set_cons_zero, Nat.reduceAdd]
            refine wM_skip rfl ?_
            simp only [Act.put, List.setIfInBounds_toArray, List.set_cons_succ, List.set_cons_zero, Nat.reduceAdd]
            refine wM_skip rfl ?_
            simp only [Act.put, List.setIfInBounds_toArray, List.set_cons_succ, List.set_cons_zero, Nat.reduceAdd]
            refine wM_skip rfl ?_
            simp only [Act.put, List.setIfInBounds_toArray, List.set_cons_succ, List.set_cons_zero, Nat.reduceAdd]
            refine wM_skip rfl ?_
            simp only [Act.put, List.setIfInBounds_toArray, List.set_cons_succ, List.set_cons_zero, Nat.reduceAdd]
            refine wM_val ?ura15 rfl rfl Ext.refl (fun w' hD => ?hra15) (fun phra15 => ?nra15)
            case hra15 =>
              obtain ⟨⟨d0, d1, d2⟩, ⟨e0, e1, e2, e3, e4⟩, f0, f1, f2, f3, f4⟩ := FX.out w' hD.1
              go_simp; rfl
            simp only [Act.put, List.setIfInBounds_toArray, List.set_cons_succ, List.set_cons_zero, Nat.reduceAdd]
            refine wM_val ?ura16 rfl rfl Ext.refl (fun w' hD => ?hra16) (fun phra16 => ?nra16)
            case hra16 =>
              obtain ⟨⟨d0, d1, d2⟩, ⟨e0, e1, e2, e3, e4⟩, f0, f1, f2, f3, f4⟩ := FX.out w' hD.1
              go_simp; rfl
            simp only [Act.put, List.setIfInBounds_toArray, List.set_cons_succ, List.set_cons_zero, Nat.reduceAdd]
            refine wM_val ?ura17 rfl rfl Ext.refl (fun w' hD => ?hra17) (fun phra17 => ?nra17)
            case hra17 =>
              obtain ⟨⟨d0, d1, d2⟩, ⟨e0, e1, e2, e3, e4⟩, f0, f1, f2, f3, f4⟩ := FX.out w' hD.1
              go_simp; rfl
            simp only [Act.put, List.setIfInBounds_toArray, List.set_cons_succ, List.set_cons_zero, Nat.reduceAdd]
            refine wM_val ?ura18 rfl rfl Ext.refl (fun w' hD => ?hra18) (fun phra18 => ?nra18)
            case hra18 =>
              obtain ⟨⟨d0, d1, d2⟩, ⟨e0, e1, e2, e3, e4⟩, f0, f1, f2, f3, f4⟩ := FX.out w' hD.1
              go_simp; rfl
            simp only [Act.put, List.setIfInBounds_toArray, List.set_cons_succ, List.set_cons_zero, Nat.reduceAdd]
            refine wM_val ?ura19 rfl rfl Ext.refl (fun w' hD => ?hra19) (fun phra19 => ?nra19)
            case hra19 =>
              obtain ⟨⟨d0, d1, d2⟩, ⟨e0, e1, e2, e3, e4⟩, f0, f1, f2, f3, f4⟩ := FX.out w' hD.1
              go_simp; rfl
            simp only [Act.put, List.setIfInBounds_toArray, List.set_cons_succ, List.set_cons_zero, Nat.reduceAdd]
            refine wM_nil ?_
            intro w9 hw9 hF9
            clear hF9
            simp only [List.drop_succ_cons, List.drop_zero]

            have hd9 := hd1.ext hw9
            have c9 := hd9.at_ ha14 hb14
            have f9 := hd9.frozen (3 + a * 14 + b)
            have hb9 := hid ((hbb1.trans hw9.bel).setCell (3 + a * 14 + b) (.bool false))
            have hd10 := hid (HSET.out _ (hd9.set ha14 hb14 false))
            clear FX hd9 hd1 hbb1 KU
            go_wp2
            go_roundw
            case rel => exact ⟨b + 1, hb1, by go_num, hd10.out, hb9.out⟩
            case measure => simp [intOf]; omega

          case true =>
            refine wp_region_shut_tail Ext (fun w' => Ext WW w') (fun
              | 8 => some (fun v _ => v = .bool true)
              | 11 => some (fun v _ => v = .agg #[.int .i64 LO.1, .int .i64 LO.2])
              | 13 => some (fun v _ => v = .agg #[.int .i64 HI.1, .int .i64 HI.2])
              | 14 => some (fun v _ => v = .bool AB)
              | _ => none) 20 (by kernel_rfl) (by kernel_rfl) (fun _ _ h k => h.trans k) ?hTrb (Ext.drew (Ext.refl WW)) ?_
            case hTrb =>
              intro i R hR
              match i, hR with
              | 8, hR => cases hR; exact fun _ _ _ h _ => h
              | 11, hR => cases hR; exact fun _ _ _ h _ => h
              | 13, hR => cases hR; exact fun _ _ _ h _ => h
              | 14, hR => cases hR; exact fun _ _ _ h _ => h
            refine wM_val ?urb0 rfl rfl Ext.refl (fun w' hD => ?hrb0) (fun phrb0 => ?nrb0)
            case hrb0 =>
              obtain ⟨⟨d0, d1, d2⟩, ⟨e0, e1, e2, e3, e4⟩, f0, f1, f2, f3, f4⟩ := FX.out w' hD.1
              go_simp; rfl
            simp only [Act.put, List.setIfInBounds_toArray, List.set_cons_succ, List.set_cons_zero, Nat.reduceAdd]
            refine wM_val ?urb1 rfl rfl Ext.refl (fun w' hD => ?hrb1) (fun phrb1 => ?nrb1)
            case hrb1 =>
              obtain ⟨⟨d0, d1, d2⟩, ⟨e0, e1, e2, e3, e4⟩, f0, f1, f2, f3, f4⟩ := FX.out w' hD.1
              go_simp; rfl
            simp only [Act.put, List.setIfInBounds_toArray, List.set_cons_succ, List.set_cons_zero, Nat.reduceAdd]
            refine wM_val ?urb2 rfl rfl Ext.refl (fun w' hD => ?hrb2) (fun phrb2 => ?nrb2)
            case hrb2 =>
              obtain ⟨⟨d0, d1, d2⟩, ⟨e0, e1, e2, e3, e4⟩, f0, f1, f2, f3, f4⟩ := FX.out w' hD.1
              go_simp; rfl
            simp only [Act.put, List.setIfInBounds_toArray, List.set_cons_succ, List.set_cons_zero, Nat.reduceAdd]
            refine wM_val ?urb3 rfl rfl Ext.refl (fun w' hD => ?hrb3) (fun phrb3 => ?nrb3)
            case hrb3 =>
              obtain ⟨⟨d0, d1, d2⟩, ⟨e0, e1, e2, e3, e4⟩, f0, f1, f2, f3, f4⟩ := FX.out w' hD.1
              go_simp; rfl
            simp only [Act.put, List.setIfInBounds_toArray, List.set_cons_succ, List.set_cons_zero, Nat.reduceAdd]
            refine wM_val ?urb4 rfl rfl Ext.refl (fun w' hD => ?hrb4) (fun phrb4 => ?nrb4)
            case hrb4 =>
              obtain ⟨⟨d0, d1, d2⟩, ⟨e0, e1, e2, e3, e4⟩, f0, f1, f2, f3, f4⟩ := FX.out w' hD.1
              go_simp; rfl
            simp only [Act.put, List.setIfInBounds_toArray, List.set_cons_succ, List.set_cons_zero, Nat.reduceAdd]
            refine wM_val ?urb5 rfl rfl Ext.refl (fun w' hD => ?hrb5) (fun phrb5 => ?nrb5)
            case hrb5 =>
              obtain ⟨⟨d0, d1, d2⟩, ⟨e0, e1, e2, e3, e4⟩, f0, f1, f2, f3, f4⟩ := FX.out w' hD.1
              go_simp; rfl
            simp only [Act.put, List.setIfInBounds_toArray, List.set_cons_succ, List.set_cons_zero, Nat.reduceAdd]
            refine wM_val ?urb6 rfl rfl Ext.refl (fun w' hD => ?hrb6) (fun phrb6 => ?nrb6)
            case hrb6 =>
              obtain ⟨⟨d0, d1, d2⟩, ⟨e0, e1, e2, e3, e4⟩, f0, f1, f2, f3, f4⟩ := FX.out w' hD.1
              go_simp; rfl
            simp only [Act.put, List.setIfInBounds_toArray, List.set_cons_succ, List.set_cons_zero, Nat.reduceAdd]
            refine wM_val ?urb7 rfl rfl Ext.refl (fun w' hD => ?hrb7) (fun phrb7 => ?nrb7)
            case hrb7 =>
              obtain ⟨⟨d0, d1, d2⟩, ⟨e0, e1, e2, e3, e4⟩, f0, f1, f2, f3, f4⟩ := FX.out w' hD.1
              go_simp; rfl
            simp only [Act.put, List.setIfInBounds_toArray, List.set_cons_succ, List.set_cons_zero, Nat.reduceAdd]
            refine wM_op _ rfl rfl (opens_call ?frb8 ?grb8 (fun w' hD => ?hrb8) (fun w' hD => ?crb8)) (fun v8 hv8 => ?nrb8)
            case hrb8 => go_simp; constructor <;> rfl
            case crb8 =>
              refine (KU.out w' hD.1).mono ?_
              rintro e w2 ⟨rfl, hb⟩
              exact ⟨_, rfl, hb, rfl⟩
            obtain ⟨_, -, -, rfl⟩ := hv8
            simp only [Act.put, List.setIfInBounds_toArray, List.set_cons_succ, List.set_cons_zero, Nat.reduceAdd]
            refine wM_val ?urb9 rfl rfl Ext.refl (fun w' hD => ?hrb9) (fun phrb9 => ?nrb9)
            case hrb9 =>
              obtain ⟨⟨d0, d1, d2⟩, ⟨e0, e1, e2, e3, e4⟩, f0, f1, f2, f3, f4⟩ := FX.out w' hD.1
              go_simp; rfl
            simp only [Act.put, List.setIfInBounds_toArray, List.set_cons_succ, List.set_cons_zero, Nat.reduceAdd]
            refine wM_val ?urb10 rfl rfl Ext.refl (fun w' hD => ?hrb10) (fun phrb10 => ?nrb10)
            case hrb10 =>
              obtain ⟨⟨d0, d1, d2⟩, ⟨e0, e1, e2, e3, e4⟩, f0, f1, f2, f3, f4⟩ := FX.out w' hD.1
              go_simp; rfl
            simp only [Act.put, List.setIfInBounds_toArray, List.set_cons_succ, List.set_cons_zero, Nat.reduceAdd]
            refine wM_op _ rfl rfl (opens_call ?frb11 ?grb11 (fun w' hD => ?hrb11) (fun w' hD => ?crb11)) (fun v11 hv11 => ?nrb11)
            case hrb11 => go_simp; constructor <;> rfl
            case crb11 =>
              refine (KL.out w' hD.1).mono ?_
              rintro e w2 ⟨rfl, hb⟩
              exact ⟨_, rfl, hb, rfl⟩
            obtain ⟨_, -, -, rfl⟩ := hv11
            simp only [Act.put, List.setIfInBounds_toArray, List.set_cons_succ, List.set_cons_zero, Nat.reduceAdd]
            refine wM_val ?urb12 rfl rfl Ext.refl (fun w' hD => ?hrb12) (fun phrb12 => ?nrb12)
            case hrb12 =>
              obtain ⟨⟨d0, d1, d2⟩, ⟨e0, e1, e2, e3, e4⟩, f0, f1, f2, f3, f4⟩ := FX.out w' hD.1
              go_simp; rfl
            simp only [Act.put, List.setIfInBounds_toArray, List.set_cons_succ, List.set_cons_zero, Nat.reduceAdd]
            refine wM_op _ rfl rfl (opens_call ?frb13 ?grb13 (fun w' hD => ?hrb13) (fun w' hD => ?crb13)) (fun v13 hv13 => ?nrb13)
            case hrb13 => go_simp; constructor <;> rfl
            case crb13 =>
              refine (KH.out w' hD.1).mono ?_
              rintro e w2 ⟨rfl, hb⟩
              exact ⟨_, rfl, hb, rfl⟩
            obtain ⟨_, -, -, rfl⟩ := hv13
            simp only [Act.put, List.setIfInBounds_toArray, List.set_cons_succ, List.set_cons_zero, Nat.reduceAdd]
            refine wM_op _ rfl rfl (opens_call ?frb14 ?grb14 (fun w' hD => ?hrb14) (fun w' hD => ?crb14)) (fun v14 hv14 => ?nrb14)
            case hrb14 => go_simp; constructor <;> rfl
            case crb14 =>
              refine (KA.out w' hD.1).mono ?_
              rintro e w2 ⟨rfl, hb⟩
              exact ⟨_, rfl, hb, rfl⟩
            obtain ⟨_, -, -, rfl⟩ := hv14
            simp only [Act.put, List.setIfInBounds_toArray, List.set_cons_succ, List.set_cons_zero, Nat.reduceAdd]
            refine wM_val ?urb15 rfl rfl Ext.refl (fun w' hD => ?hrb15) (fun phrb15 => ?nrb15)
            case hrb15 =>
              obtain ⟨⟨d0, d1, d2⟩, ⟨e0, e1, e2, e3, e4⟩, f0, f1, f2, f3, f4⟩ := FX.out w' hD.1
              go_simp; rfl
            simp only [Act.put, List.setIfInBounds_toArray, List.set_cons_succ, List.set_cons_zero, Nat.reduceAdd]
            refine wM_val ?urb16 rfl rfl Ext.refl (fun w' hD => ?hrb16) (fun phrb16 => ?nrb16)
            case hrb16 =>
              obtain ⟨⟨d0, d1, d2⟩, ⟨e0, e1, e2, e3, e4⟩, f0, f1, f2, f3, f4⟩ := FX.out w' hD.1
              go_simp; rfl
            simp only [Act.put, List.setIfInBounds_toArray, List.set_cons_succ, List.set_cons_zero, Nat.reduceAdd]
            refine wM_val ?urb17 rfl rfl Ext.refl (fun w' hD => ?hrb17) (fun phrb17 => ?nrb17)
            case hrb17 =>
              obtain ⟨⟨d0, d1, d2⟩, ⟨e0, e1, e2, e3, e4⟩, f0, f1, f2, f3, f4⟩ := FX.out w' hD.1
              go_simp; rfl
            simp only [Act.put, List.setIfInBounds_toArray, List.set_cons_succ, List.set_cons_zero, Nat.reduceAdd]
            refine wM_val ?urb18 rfl rfl Ext.refl (fun w' hD => ?hrb18) (fun phrb18 => ?nrb18)
            case hrb18 =>
              obtain ⟨⟨d0, d1, d2⟩, ⟨e0, e1, e2, e3, e4⟩, f0, f1, f2, f3, f4⟩ := FX.out w' hD.1
              go_simp; rfl
            simp only [Act.put, List.setIfInBounds_toArray, List.set_cons_succ, List.set_cons_zero, Nat.reduceAdd]
            refine wM_val ?urb19 rfl rfl Ext.refl (fun w' hD => ?hrb19) (fun phrb19 => ?nrb19)
            case hrb19 =>
              obtain ⟨⟨d0, d1, d2⟩, ⟨e0, e1, e2, e3, e4⟩, f0, f1, f2, f3, f4⟩ := FX.out w' hD.1
              go_simp; rfl
            simp only [Act.put, List.setIfInBounds_toArray, List.set_cons_succ, List.set_cons_zero, Nat.reduceAdd]
            refine wM_nil ?_
            intro w9 hw9 hF9
            clear hF9
            simp only [List.drop_succ_cons, List.drop_zero]

            have hd9 := hd1.ext hw9
            have c9 := hd9.at_ ha14 hb14
            have f9 := hd9.frozen (3 + a * 14 + b)
            have hb9 := hid ((hbb1.trans hw9.bel).setCell (3 + a * 14 + b) (.bool AB))
            have hd10 := hid (HSET.out _ (hd9.set ha14 hb14 AB))
            clear FX hd9 hd1 hbb1 KU
            go_wp2
            go_roundw
            case rel => exact ⟨b + 1, hb1, by go_num, hd10.out, hb9.out⟩
            case measure => simp [intOf]; omega

        · have hltb' : ¬ (b : Int) < (h.ws.length : Int) := by omega
          obtain rfl : b = h.ws.length := by omega
          have hd2 := hd.congr (tillB_row hlt)
          rw [HEA.out] at hd2
          have hd2 := hid hd2
          have hb2 := hid (hbW.trans hbb)
          clear hd hbb hdW hbW
          go_wp2
          go_roundw
          case rel => exact ⟨a + 1, ha1, by go_num, hd2.out, hb2.out⟩
          case measure => simp [intOf]; omega
    · have hlt' : ¬ (a : Int) < (h.ws.length : Int) := by omega
      obtain rfl : a = h.ws.length := by omega
      have hd2 := hid (hd.congr tillB_all)
      have hxw := hid (hX0.then_bel (by have := hx1.size; omega) hb)
      have hrr := hid (HRW.out wr hx1r)
      clear hd hb hd0
      go_wp2
      go_ret2
      refine ⟨_, rfl, hxw.out, ?_⟩
      first | exact ⟨D, A, c, rfl, hd2.out, hrr.out, hcap⟩ | exact ⟨fun _ => ⟨D, A, c, rfl, hd2.out, hrr.out, hcap⟩, fun e => absurd rfl e⟩
end Go.Proofs.YtjnobdcbbboeeaaGreat

namespace Go.Proofs.YtjnobdcbbboeeaaGreat
open Go Go.RowKit Go.Shelf
set_option linter.unusedVariables false
set_option linter.unusedSimpArgs false

theorem wpList_eql_op {P : Program} {ops : Array Oper} {rest : List Oper} {o : Oper} {a : Act} {w : World} {Q : Exit → Act → World → Prop} (hgd : o.guard = none) (t ty : TypeId) (x y : Operand) (ho : o.op = .binOp .eql t x y ty)
    (xs ys : Array Value) (hx : a.eval x = .agg xs) (hy : a.eval y = .agg ys) (b : Bool) (hg : P.eqGuardType P.depth t = false) (he : (Op.equalIn 10000 t (.agg xs) (.agg ys)).run P w = .ok b w)
    (hn : wpList P ops Q rest (a.put o.dst (.bool b)) w) : wpList P ops Q (o :: rest) a w :=
  wpList_plain hgd fun _ hK => by
    unfold Oper.wp
    rw [run_eql_op w a.eval t ty x y ho xs ys hx hy b hg he]
    exact hK _ _ hn
theorem agr_zero {h : Hs} (k : h.ws.length ≤ 14) : (gb (claG h) == List.replicate 196 false) = agrH h := by
  rw [Bool.eq_iff_iff, gb_is_zero, agr_iff]
  constructor
  · intro h1 a b ha hb
    rw [← claG_is ha hb]; exact h1 a b (by omega) (by omega)
  · intro h1 a b _ _
    unfold claG
    by_cases ha : a < h.ws.length
    · by_cases hb : b < h.ws.length
      · rw [h1 a b ha hb]; simp
      · simp [hb]
    · simp [ha]
theorem infoMat : (Tryz.prog.info? 91).map (·.size) = some 196 := by kernel_rfl
set_option maxRecDepth 100000 in
set_option maxHeartbeats 1000000 in
theorem agree_any (v : Value) (h : Hs) (w : World) (hd : DskR w v h) (hl : h.ws.length ≤ 14) :
    Calls Tryz.prog 50 #[v] w fun e w' => e = .returned (.bool (agrH h)) ∧ w = w' := by
  obtain ⟨D, A, c, rfl, hk, -, -⟩ := hd
  have HQ : Hid ((Op.equalIn 10000 91 (.agg ((gb (claG h)).map Value.bool).toArray) (.agg ((List.replicate 196 false).map Value.bool).toArray)).run Tryz.prog w = .ok (agrH h) w) := by
    unfold Hid
    rw [← agr_zero hl]
    exact run_equalIn_arrB2 w 9997 91 90 4 14 14 Tryz.underlying91 Tryz.underlying90 (by kernel_rfl) (by kernel_rfl) Tryz.underlying4 (by kernel_rfl) (by kernel_rfl) _ _ (gb_len _) (by simp)
  have HM := hid hk.mat
  obtain ⟨B, hB⟩ : ∃ B, agrH h = B := ⟨_, rfl⟩
  rw [hB] at HQ ⊢
  clear hB hk
  go_enter Tryz.func50, Tryz.ntmps50
  go_wp2_with (first
    | (refine wpList_load_cells rfl 91 (.tmp 5) rfl ⟨D, 3, none⟩ rfl ((gb (claG h)).map Value.bool) (.array 14 90) (fun j v hv => ?_) Tryz.underlying91 rfl (by rw [infoMat]; simp [gb_len]) ?_)
    | (refine wpList_eql_op rfl 91 91 (.tmp 6) (.tmp 7) rfl _ _ rfl rfl B (by kernel_rfl) HQ.out ?_))
  · rw [Addr.add_lit]; exact HM.out j v hv
  · go_ret
    exact ⟨rfl, rfl⟩
end Go.Proofs.YtjnobdcbbboeeaaGreat

namespace Go.Proofs.YtjnobdcbbboeeaaGreat
open Go Go.RowKit
set_option linter.unusedVariables false
set_option linter.unusedSimpArgs false

theorem own_at {w : World} {base e size n c : Nat} {A : Option Addr} {xs : List Value} (h : w.ownsRow base e size (.slice A n c) n xs) (hA : A ≠ none) : ∃ g, A = some ⟨g, 0, none⟩ := by
  rcases h.2 with ⟨h, _⟩ | ⟨g, cap, cur, h, _⟩
  · cases h; exact absurd rfl hA
  · cases h; exact ⟨g, rfl⟩

theorem elem_int : ElemOK Tryz.prog 31 3 1 8 := by
  refine ⟨Tryz.underlying31, ?_, by decide, by decide⟩
  have h : ((Tryz.prog.info? 3).bind fun i => i.zero.map fun z => (i.size, i.bytes, z.cells.size)) = some (1, 8, 1) := by kernel_rfl
  cases hi : Tryz.prog.info? 3 with
  | none => rw [hi] at h; cases h
  | some i =>
    rw [hi] at h
    cases hz : i.zero with
    | none => simp [hz] at h
    | some z => simp [hz] at h; exact ⟨i, z, rfl, hz, h.1, h.2.1, h.2.2⟩

theorem elem_wg : ElemOK Tryz.prog 23 67 5 40 := by
  refine ⟨Tryz.underlying23, ?_, by decide, by decide⟩
  have h : ((Tryz.prog.info? 67).bind fun i => i.zero.map fun z => (i.size, i.bytes, z.cells.size)) = some (5, 40, 5) := by kernel_rfl
  cases hi : Tryz.prog.info? 67 with
  | none => rw [hi] at h; cases h
  | some i =>
    rw [hi] at h
    cases hz : i.zero with
    | none => simp [hz] at h
    | some z => simp [hz] at h; exact ⟨i, z, rfl, hz, h.1, h.2.1, h.2.2⟩

theorem elem_rat : ElemOK Tryz.prog 26 63 2 16 := by
  refine ⟨Tryz.underlying26, ?_, by decide, by decide⟩
  have h : ((Tryz.prog.info? 63).bind fun i => i.zero.map fun z => (i.size, i.bytes, z.cells.size)) = some (2, 16, 2) := by kernel_rfl
  cases hi : Tryz.prog.info? 63 with
  | none => rw [hi] at h; cases h
  | some i =>
    rw [hi] at h
    cases hz : i.zero with
    | none => simp [hz] at h
    | some z => simp [hz] at h; exact ⟨i, z, rfl, hz, h.1, h.2.1, h.2.2⟩

theorem elem_pair : ElemOK Tryz.prog 35 43 2 16 := by
  refine ⟨Tryz.underlying35, ?_, by decide, by decide⟩
  have h : ((Tryz.prog.info? 43).bind fun i => i.zero.map fun z => (i.size, i.bytes, z.cells.size)) = some (2, 16, 2) := by kernel_rfl
  cases hi : Tryz.prog.info? 43 with
  | none => rw [hi] at h; cases h
  | some i =>
    rw [hi] at h
    cases hz : i.zero with
    | none => simp [hz] at h
    | some z => simp [hz] at h; exact ⟨i, z, rfl, hz, h.1, h.2.1, h.2.2⟩

set_option maxHeartbeats 1000000 in
theorem clone_int (A : Option Addr) (c : Nat) (l : List Int) (w : World) (hA : Ints w A l) (hl : l.length * 8 ≤ 140737488355328) :
    Calls Tryz.prog 65 #[.slice A l.length c] w fun e w' => ∃ A' c', e = .returned (.slice A' l.length c') ∧
      w'.ownsRow w.heap.size 3 1 (.slice A' l.length c') l.length (l.map (Value.int .i64)) ∧ (A' = none ↔ A = none) ∧ Ext w w' := by
  have q : ∀ (w : World) (a : Option Addr) (n c n' c' : Nat), (binOp .eql 31 (.slice a n c) (.slice none n' c')).run Tryz.prog w = .ok (.bool a.isNone) w := fun w a n c n' c' => Lib.run_eql_slice_nil w _ _ a n c n' c' Tryz.underlying31
  have H1 : Hid ((l.map (Value.int .i64)).length = l.length * 1) := hid (ints_len l)
  have H2 : Hid (Rd w A (l.map (Value.int .i64))) := hid hA
  have H3 := hid (ints_one l)
  cases A with
  | none =>
    have hnil : (l.map (Value.int .i64)) = [] := by
      rcases H2.out with h | ⟨b, off, h, _⟩
      · exact h
      · cases h
    have h0 : l.length = 0 := by have := H1.out; rw [hnil] at this; simp only [List.length_nil] at this; omega
    have H4 := hid hnil
    clear hnil
    have H5 := hid h0
    clear h0
    go_enter Tryz.func65, Tryz.ntmps65
    go_wp2
    go_ret
    refine ⟨none, 0, ret_of (by rw [H5.out]; rfl), ?_, by simp, Ext.refl w⟩
    rw [H4.out, H5.out]
    exact own_nil _ _ _ _
  | some ad =>
    go_enter Tryz.func65, Tryz.ntmps65
    go_wp2_with (at_builtin; refine wpList_append_rd _ rfl _ _ 31 rfl elem_int w.heap.size _ _ _ rfl (World.ownsRow_made w #[] 0 (Nat.le_refl _) (Nat.zero_le _) (by simp)) (some ad) l.length c (l.map (Value.int .i64)) rfl ?qc1 ?qc2 ?qc3 ?qc4 ?qc5 ?_)
    case qc1 => have := H1.out; omega
    case qc2 => exact Rd.ext H2.out (Ext.alloc (Ext.refl w) _)
    case qc3 => exact H3.out
    case qc4 => rw [Nat.zero_add]; exact hl
    case qc5 => simp
    intro A' c' w1 hown hbel hgrow hnil
    have HN := hid hnil
    clear hnil
    go_wp2
    go_ret
    refine ⟨A', c', ret_of (by simp), by simpa using hown, ?_, Below.trans (Below.alloc (Below.refl _ w) (Nat.le_refl _) _) hbel⟩
    simp [HN.out]

set_option maxHeartbeats 1000000 in
theorem dup_int (A : Option Addr) (c : Nat) (l : List Int) (w : World) (hA : Ints w A l) (hl : l.length * 8 ≤ 140737488355328) :
    Calls Tryz.prog 17 #[.slice A l.length c] w fun e w' => ∃ g c', e = .returned (.slice (some ⟨g, 0, none⟩) l.length c') ∧ w'.ownsRow w.heap.size 3 1 (.slice (some ⟨g, 0, none⟩) l.length c') l.length (l.map (Value.int .i64)) ∧ Ext w w' := by
  obtain ⟨_, ⟨i, z, hi, hz, hsize, hby, hzs⟩, _, _⟩ := elem_int
  have hm : l.length ≤ maxLen := by simp only [maxLen]; omega
  have hb2 : i.bytes * l.length ≤ 281474976710656 := by rw [hby]; omega
  have H2 := hid hm
  have H3 := hid hb2
  have H4 := hid hi
  have H5 := hid hz
  have H6 := hid hsize
  have HL : Hid ((l.map (Value.int .i64)).length = l.length * 1) := hid (ints_len l)
  clear hm hb2 hi hz hsize hby hzs
  go_enter Tryz.func17, Tryz.ntmps17
  go_wp2_with (at_make; refine wpList_make_own _ rfl _ _ 31 rfl w.heap.size 3 i z 1 Tryz.underlying31 H4.out H5.out H6.out .i64 .i64 _ l.length rfl rfl rfl H3.out H2.out (Nat.le_refl _) ?_)
  intro w1 hown1 hgr1
  have hx1 : Ext w w1 := Ext.grown (Ext.refl w) hgr1 (fun k e => by cases e)
  have H1 := hid hown1
  have hsz := hx1.size
  clear hown1 hgr1
  have hb24 : (0 + l.length) * 8 ≤ 140737488355328 := by omega
  go_wp2_with (at_builtin; refine wpList_append_rd _ rfl _ _ 31 rfl elem_int w.heap.size _ 0 [] rfl H1.out A l.length c (l.map (Value.int .i64)) rfl HL.out (Rd.ext hA hx1) (ints_one l) hb24 hsz ?_)
  intro A5 c5 w5 hown5 hbel5 hgr5 hn5
  have hx5 : Ext w w5 := Ext.grown hx1 hgr5 (fun k e => (H1.out.lt k e).1)
  obtain ⟨g5, hg5⟩ := own_at hown5 hn5
  subst hg5
  have H7 := hid hown5
  have H8 := hid hx5
  clear hown5 hn5 hbel5 hgr5 hx5 hx1
  go_wp2
  go_ret
  exact ⟨g5, c5, rfl, H7.out, H8.out⟩

end Go.Proofs.YtjnobdcbbboeeaaGreat
